/- Functions of the program as Lean functions, and that the calls come to them: no condition.  By this session's own program (wip/xprint). -/
import Derived.Test.YtdhmlenmnobmfaaG0
namespace Go.Proofs.Ytdhmlenmnobmfaa.X
open Go.RowKit Go.Proofs.YtdhmlenmnobmfaaW.PrintWords Go.Proofs.YtdhmlenmnobmfaaW.PrintLast Go.Proofs.YtdhmlenmnobmfaaW.PrintMore
attribute [local go_sem] max2_int min2_int max_two min_two max_three min_three max_four min_four   -- for this text's walks alone
set_option linter.unusedVariables false
set_option linter.unusedSimpArgs false
/-! ### tenancyref04_Pad: function 45: by hand -/
def zerosI (n : Nat) : List Int := List.replicate n 0
theorem zerosI_snoc (n : Nat) : zerosI n ++ [0] = zerosI (n + 1) := by simp [zerosI, List.replicate_succ']
def tenancyref04_Pad.f (a0 : ByteArray) (a1 : Int) : Option (ByteArray × Bool) := if (a0.size : Int) > a1 then some ((⟨#[]⟩ : ByteArray), false) else if a1 ≤ 140737488355328 then some (strOfNums (bytesOf a0 ++ zerosI (a1.toNat - a0.size)), true) else none
theorem pinfo5 : (Try.prog.info? 5).map (fun i => (i.zero, i.size, i.bytes)) = some (some (.int .u8 0), 1, 1) := by kernel_rfl
set_option maxRecDepth 100000 in
set_option maxHeartbeats 1000000 in
theorem tenancyref04_Pad.calls (a0 : ByteArray) (a1 : Int) (r1 : ByteArray) (r2 : Bool) (w : World) (h : tenancyref04_Pad.f a0 a1 = some (r1, r2)) :
    Calls Try.prog 45 #[.string a0, .int .i64 a1] w fun e w' => e = .returned (.tuple #[.string r1, .bool r2]) ∧ Below w.heap.size w w' := by
  unfold tenancyref04_Pad.f at h
  by_cases c : (a0.size : Int) > a1
  · rw [if_pos c] at h
    simp only [Option.some.injEq, Prod.mk.injEq] at h
    obtain ⟨rfl, rfl⟩ := h
    have cb : decide (a1 < (a0.size : Int)) = true := decide_eq_true c
    go_enter Try.func45, Try.ntmps45
    go_wp2
    go_ret2
    exact ⟨rfl, Below.refl _ _⟩
  rw [if_neg c] at h
  by_cases c2 : a1 ≤ 140737488355328
  · rw [if_pos c2] at h
    simp only [Option.some.injEq, Prod.mk.injEq] at h
    obtain ⟨rfl, rfl⟩ := h
    obtain ⟨n, rfl⟩ : ∃ n : Nat, a1 = ((a0.size + n : Nat) : Int) := ⟨a1.toNat - a0.size, by omega⟩
    have hn : ((a0.size + n : Nat) : Int).toNat - a0.size = n := by omega
    rw [hn]
    have hs : a0.size + n ≤ 140737488355328 := by omega
    obtain ⟨i0, hi, hz0, hz1, hz2⟩ := info_parts pinfo5
    have kb := fun W => print_bytes (P := Try.prog) 9 39 5 Try.underlying9 Try.underlying39 Try.underlying5 a0 W
    have HC := Aside0.mk (XOrow.ORow.conv w 5 a0 (by omega))
    have HB := Aside0.mk (bytes_below (Below.refl w.heap.size w) (Nat.le_refl _) 5 a0)
    clear c c2 hn
    obtain ⟨W1, hW1⟩ : ∃ W1, W1 = Lib.bytesWorld w 5 a0 := ⟨_, rfl⟩
    rw [← hW1] at HC HB
    have kb1 := kb w
    rw [← hW1] at kb1
    clear kb
    have HW := Lib.hid hW1
    clear hW1
    have hsz : W1.heap.size = w.heap.size + 1 := by rw [HW.out, Lib.bytesWorld_size]
    have HZ := Lib.hid hsz
    clear hsz
    go_enter Try.func45, Try.ntmps45
    go_wp2_with fail
    have hsize : a0.size ≤ 140737488355328 := by omega
    have hne : ∀ m, (nums .u8 (bytesOf a0 ++ zerosI m)).length = a0.size + m := fun m => by rw [nums_length, List.length_append, bytesOf_length]; simp [zerosI]
    have HN := Lib.hid hne
    clear hne
    have HW1 := Aside0.mk (show w.heap.size ≤ W1.heap.size by have := HZ.out; omega)
    go_loopg [6] n (fun gg v wr => ∃ m : Nat, Aside0 (m + gg = n) ∧ Aside0 (XOrow.ORow wr w.heap.size 5 v (nums .u8 (bytesOf a0 ++ zerosI m))) ∧ Aside0 (Below w.heap.size w wr) ∧ Aside0 (w.heap.size ≤ wr.heap.size))
    case atStart => exact ⟨0, ⟨by omega⟩, ⟨by rw [show zerosI 0 = [] from rfl, List.append_nil]; exact HC.out⟩, HB, HW1⟩
    case round =>
      clear HB HC kb1 HW1
      obtain ⟨m, HM, HO, HB, HS⟩ := hrel
      obtain ⟨A, c, hv⟩ := HO.out.shape
      rw [HN.out] at hv
      subst hv
      by_cases hlt : m < n
      · go_wp2_with (at_builtin; refine XOrow.append_orow w _ rfl (.tmp 17) (.tmp 18) 39 5 rfl i0 (.int .u8 0) 1 Try.underlying39 hi hz0 hz1 hz2 rfl rfl (HO.out.alloc _) ?hb ?hbase ⟨wr.heap.size, 0, none⟩ 1 1 [.int .u8 0] rfl rfl ?c1 ?c2 ?c3 ?c4 ?nx)
        case hb => exact below_alloc HB.out _
        case hbase => simp; exact Nat.le_succ_of_le HS.out
        case c1 =>
          intro j u hj
          match j, hj with
          | 0, hj => simp at hj; subst hj; simp [Addr.add]
        case c2 => intro u hu; simp at hu; subst hu; rfl
        case c3 => rw [HN.out]; unfold maxLen; omega
        case c4 => rw [HN.out]; omega
        case nx =>
          intro v' w1 hor hb1 hs1
          have HO1 := Aside0.mk (show XOrow.ORow w1 w.heap.size 5 v' (nums .u8 (bytesOf a0 ++ zerosI (m + 1))) by
            rw [← zerosI_snoc, ← List.append_assoc, nums_append]; exact hor)
          have HB1 := Aside0.mk hb1
          have HS1 := Aside0.mk hs1
          clear hor hb1 hs1 HO HB HS
          go_wp2
          go_roundg (n - (m + 1))
          case measure => have := HM.out; omega
          case rel => exact ⟨m + 1, ⟨by omega⟩, HO1, HB1, HS1⟩
      · have hmn : m = n := by have := HM.out; omega
        subst hmn
        have hcv := XOrow.ORow.str (P := Try.prog) (src := 39) (dst := 9) Try.underlying39 Try.underlying5 Try.underlying9 HO.out
        go_wp2
        go_ret2
        exact ⟨rfl, HB.out⟩
  · rw [if_neg c2] at h; cases h

/-! ### tenancyref14_zeros: function 22 -/
def tenancyref14_zeros.f (a0 : Int) : Option (ByteArray) := (tenancyref04_Pad.f (⟨#[]⟩ : ByteArray) a0).bind fun bt201 => (some bt201.1)
set_option maxHeartbeats 8000000 in
set_option maxRecDepth 100000 in
theorem tenancyref14_zeros.calls (a0 : Int) (r : ByteArray) (w : World) (h : tenancyref14_zeros.f a0 = some r) :
    Calls Try.prog 22 #[.int .i64 a0] w fun e w' => e = .returned (.string r) ∧ Below w.heap.size w w' := by
  have HB := Aside0.mk (Below.refl w.heap.size w)
  have H : ((tenancyref04_Pad.f (⟨#[]⟩ : ByteArray) a0).bind fun bt201 => (some bt201.1)) = some r := h
  clear h
  replace H := Option.bind_eq_some_iff.mp H
  obtain ⟨⟨t201, t202⟩, A20, H⟩ := H
  replace H : (some t201) = some r := H
  have A2 := Aside0.mk A20
  clear A20
  obtain rfl := Option.some.inj H
  go_enter Try.func22, Try.ntmps22
  go_wp2_with (first | ((with_reducible refine gate_callee (f := 45) rfl ?_); refine goesL_ (some 7) rfl rfl Try.func45 (by kernel_rfl) rfl #[.string (⟨#[]⟩ : ByteArray), .int .i64 a0] rfl (by (try simp only [List.map_toArray, List.map_cons, List.map_nil]); first | done | rfl | (simp only [List.length_drop, List.length_take]; rfl)) ?_; (with_reducible refine (tenancyref04_Pad.calls (⟨#[]⟩ : ByteArray) a0 t201 t202 _ A2.out).mono ?_); rintro e w3 ⟨rfl, hb⟩; refine ⟨_, rfl, ?_⟩; have n0_ := Aside0.mk (below_step (by repeat (first | (with_reducible first | exact HB.out | apply below_alloc | apply pw_below_drewN | apply below_drew1) | exact HB.out)) hb); clear HB; have HB := n0_; clear n0_; (try clear hb); (try clear hb2); (try clear hk); (try clear hi)))
  go_ret
  exact ⟨by first | rfl | (simp [errW_none, errW_some] <;> rfl) | (simp [*, errW_none, errW_some] <;> rfl), by repeat (first | (with_reducible first | exact HB.out | apply below_alloc | apply pw_below_drewN | apply below_drew1) | exact HB.out)⟩

/-! ### tenancyref14_Blank: function 11 -/
def tenancyref14_Blank.f  : Option (Int × Int × Int × Int × Int × Int × Int × Int × Int × Int × Int × ByteArray × ByteArray × ByteArray × (List (S47))) := (tenancyref14_zeros.f 16).bind fun t204 => ((tenancyref14_zeros.f 64).bind fun t205 => ((tenancyref14_zeros.f 128).bind fun t206 => (some (0, 0, 0, 0, 0, 0, 0, 0, 0, 0, 0, t204, t205, t206, ([] : List (S47))))))
set_option maxHeartbeats 8000000 in
set_option maxRecDepth 100000 in
theorem tenancyref14_Blank.calls  (r1 : Int) (r2 : Int) (r3 : Int) (r4 : Int) (r5 : Int) (r6 : Int) (r7 : Int) (r8 : Int) (r9 : Int) (r10 : Int) (r11 : Int) (r12 : ByteArray) (r13 : ByteArray) (r14 : ByteArray) (r15 : List (S47)) (w : World) (h : tenancyref14_Blank.f  = some (r1, r2, r3, r4, r5, r6, r7, r8, r9, r10, r11, r12, r13, r14, r15)) :
    Calls Try.prog 11 #[] w fun e w' => ∃ v14_ : Value, e = .returned (.agg #[.int .u8 r1, .int .u8 r2, .int .u8 r3, .int .u8 r4, .int .u32 r5, .int .u16 r6, .int .u16 r7, .int .u32 r8, .int .u32 r9, .int .u32 r10, .int .u32 r11, .string r12, .string r13, .string r14, v14_]) ∧ Kd.R k47 47 w' w.heap.size (fun _ => True) v14_ r15 ∧ Below w.heap.size w w' := by
  have hu26 := Try.underlying26
  have HB := Aside0.mk (Below.refl w.heap.size w)
  have H : ((tenancyref14_zeros.f 16).bind fun t204 => ((tenancyref14_zeros.f 64).bind fun t205 => ((tenancyref14_zeros.f 128).bind fun t206 => (some (0, 0, 0, 0, 0, 0, 0, 0, 0, 0, 0, t204, t205, t206, ([] : List (S47))))))) = some (r1, r2, r3, r4, r5, r6, r7, r8, r9, r10, r11, r12, r13, r14, r15) := h
  clear h
  replace H := Option.bind_eq_some_iff.mp H
  obtain ⟨t204, A10, H⟩ := H
  replace H : ((tenancyref14_zeros.f 64).bind fun t205 => ((tenancyref14_zeros.f 128).bind fun t206 => (some (0, 0, 0, 0, 0, 0, 0, 0, 0, 0, 0, t204, t205, t206, ([] : List (S47)))))) = some (r1, r2, r3, r4, r5, r6, r7, r8, r9, r10, r11, r12, r13, r14, r15) := H
  have A1 := Aside0.mk A10
  clear A10
  replace H := Option.bind_eq_some_iff.mp H
  obtain ⟨t205, A20, H⟩ := H
  replace H : ((tenancyref14_zeros.f 128).bind fun t206 => (some (0, 0, 0, 0, 0, 0, 0, 0, 0, 0, 0, t204, t205, t206, ([] : List (S47))))) = some (r1, r2, r3, r4, r5, r6, r7, r8, r9, r10, r11, r12, r13, r14, r15) := H
  have A2 := Aside0.mk A20
  clear A20
  replace H := Option.bind_eq_some_iff.mp H
  obtain ⟨t206, A30, H⟩ := H
  replace H : (some (0, 0, 0, 0, 0, 0, 0, 0, 0, 0, 0, t204, t205, t206, ([] : List (S47)))) = some (r1, r2, r3, r4, r5, r6, r7, r8, r9, r10, r11, r12, r13, r14, r15) := H
  have A3 := Aside0.mk A30
  clear A30
  simp only [Option.some.injEq, Prod.mk.injEq] at H
  obtain ⟨rfl, rfl, rfl, rfl, rfl, rfl, rfl, rfl, rfl, rfl, rfl, rfl, rfl, rfl, rfl⟩ := H
  go_enter Try.func11, Try.ntmps11
  go_wp2_with (first | ((with_reducible refine gate_dst (N := 0) rfl ?_); refine box_event ?hg (N := 0) ?hd (cs := #[.int .u8 0, .int .u8 0, .int .u8 0, .int .u8 0, .int .u32 0, .int .u16 0, .int .u16 0, .int .u32 0, .int .u32 0, .int .u32 0, .int .u32 0, .string (⟨#[]⟩ : ByteArray), .string (⟨#[]⟩ : ByteArray), .string (⟨#[]⟩ : ByteArray), .slice none 0 0]) (t := 26) ?hr ?_; (case hd => rfl); (case hg => rfl); (case hr => first | (go_simp; done) | (go_simp; rfl)); intro gb203 hg w4 hbox hb; have n0_ := Aside0.mk (below_step (by repeat (first | (with_reducible first | exact HB.out | apply below_alloc | apply pw_below_drewN | apply below_drew1) | exact HB.out)) hb); have n1_ := Aside0.mk (hbox); have n2_ := Aside0.mk ((by rw [hg]; exact (below_size (by repeat (first | (with_reducible first | exact HB.out | apply below_alloc | apply pw_below_drewN | apply below_drew1) | exact HB.out))) : w.heap.size ≤ gb203)); have n3_ := Aside0.mk ((by rw [hg]; exact (below_size (by repeat (first | (with_reducible first | exact HB.out | apply below_alloc | apply pw_below_drewN | apply below_drew1) | exact HB.out))) : w.heap.size ≤ gb203)); clear HB; have HB := n0_; have BK203 := n1_; have GW203 := n2_; have GE203 := n3_; clear n0_ n1_ n2_ n3_; clear hb hbox hg) | ((with_reducible refine gate_callee (f := 22) rfl ?_); refine goesL_ (some 1) rfl rfl Try.func22 (by kernel_rfl) rfl #[.int .i64 16] rfl (by (try simp only [List.map_toArray, List.map_cons, List.map_nil]); first | done | rfl | (simp only [List.length_drop, List.length_take]; rfl)) ?_; (with_reducible refine (tenancyref14_zeros.calls 16 t204 _ A1.out).mono ?_); rintro e w5 ⟨rfl, hb⟩; refine ⟨_, rfl, ?_⟩; have n0_ := Aside0.mk (blk_below (g := gb203) (o := .cells #[.int .u8 0, .int .u8 0, .int .u8 0, .int .u8 0, .int .u32 0, .int .u16 0, .int .u16 0, .int .u32 0, .int .u32 0, .int .u32 0, .int .u32 0, .string (⟨#[]⟩ : ByteArray), .string (⟨#[]⟩ : ByteArray), .string (⟨#[]⟩ : ByteArray), .slice none 0 0] 26 (0, 0)) (by (with_reducible repeat (first | refine blk_drewN ?_ _ | refine blk_drew ?_ | refine blk_alloc ?_ _)); exact BK203.out) hb); have n1_ := Aside0.mk (below_step (by repeat (first | (with_reducible first | exact HB.out | apply below_alloc | apply pw_below_drewN | apply below_drew1 | refine below_set ?_ GE203.out) | exact HB.out)) hb); clear BK203; clear HB; have BK203 := n0_; have HB := n1_; clear n0_ n1_; (try clear hb); (try clear hb2); (try clear hk); (try clear hi)) | ((with_reducible refine gate_callee (f := 22) rfl ?_); refine goesL_ (some 2) rfl rfl Try.func22 (by kernel_rfl) rfl #[.int .i64 64] rfl (by (try simp only [List.map_toArray, List.map_cons, List.map_nil]); first | done | rfl | (simp only [List.length_drop, List.length_take]; rfl)) ?_; (with_reducible refine (tenancyref14_zeros.calls 64 t205 _ A2.out).mono ?_); rintro e w6 ⟨rfl, hb⟩; refine ⟨_, rfl, ?_⟩; have n0_ := Aside0.mk (blk_below (g := gb203) (o := .cells #[.int .u8 0, .int .u8 0, .int .u8 0, .int .u8 0, .int .u32 0, .int .u16 0, .int .u16 0, .int .u32 0, .int .u32 0, .int .u32 0, .int .u32 0, .string (⟨#[]⟩ : ByteArray), .string (⟨#[]⟩ : ByteArray), .string (⟨#[]⟩ : ByteArray), .slice none 0 0] 26 (0, 0)) (by (with_reducible repeat (first | refine blk_drewN ?_ _ | refine blk_drew ?_ | refine blk_alloc ?_ _)); exact BK203.out) hb); have n1_ := Aside0.mk (below_step (by repeat (first | (with_reducible first | exact HB.out | apply below_alloc | apply pw_below_drewN | apply below_drew1 | refine below_set ?_ GE203.out) | exact HB.out)) hb); clear BK203; clear HB; have BK203 := n0_; have HB := n1_; clear n0_ n1_; (try clear hb); (try clear hb2); (try clear hk); (try clear hi)) | ((with_reducible refine gate_callee (f := 22) rfl ?_); refine goesL_ (some 3) rfl rfl Try.func22 (by kernel_rfl) rfl #[.int .i64 128] rfl (by (try simp only [List.map_toArray, List.map_cons, List.map_nil]); first | done | rfl | (simp only [List.length_drop, List.length_take]; rfl)) ?_; (with_reducible refine (tenancyref14_zeros.calls 128 t206 _ A3.out).mono ?_); rintro e w7 ⟨rfl, hb⟩; refine ⟨_, rfl, ?_⟩; have n0_ := Aside0.mk (blk_below (g := gb203) (o := .cells #[.int .u8 0, .int .u8 0, .int .u8 0, .int .u8 0, .int .u32 0, .int .u16 0, .int .u16 0, .int .u32 0, .int .u32 0, .int .u32 0, .int .u32 0, .string (⟨#[]⟩ : ByteArray), .string (⟨#[]⟩ : ByteArray), .string (⟨#[]⟩ : ByteArray), .slice none 0 0] 26 (0, 0)) (by (with_reducible repeat (first | refine blk_drewN ?_ _ | refine blk_drew ?_ | refine blk_alloc ?_ _)); exact BK203.out) hb); have n1_ := Aside0.mk (below_step (by repeat (first | (with_reducible first | exact HB.out | apply below_alloc | apply pw_below_drewN | apply below_drew1 | refine below_set ?_ GE203.out) | exact HB.out)) hb); clear BK203; clear HB; have BK203 := n0_; have HB := n1_; clear n0_ n1_; (try clear hb); (try clear hb2); (try clear hk); (try clear hi); obtain ⟨hcz8_0, hcz8_1, hcz8_2, hcz8_3, hcz8_4, hcz8_5, hcz8_6, hcz8_7, hcz8_8, hcz8_9, hcz8_10, hcz8_11, hcz8_12, hcz8_13, hcz8_14⟩ := XRun.bc15 BK203.out; obtain ⟨hfz8_0, hfz8_1, hfz8_2, hfz8_3, hfz8_4, hfz8_5, hfz8_6, hfz8_7, hfz8_8, hfz8_9, hfz8_10, hfz8_11, hfz8_12, hfz8_13, hfz8_14⟩ := XRun.bf15 BK203.out))
  refine bodyPost_ret (results_cell_row rfl _ _ gb203 26 #[.int .u8 0, .int .u8 0, .int .u8 0, .int .u8 0, .int .u32 0, .int .u16 0, .int .u16 0, .int .u32 0, .int .u32 0, .int .u32 0, .int .u32 0, .string t204, .string t205, .string t206, .slice none 0 0] (0, 0) _ rfl (by (with_reducible repeat (first | refine blk_drewN ?_ _ | refine blk_drew ?_ | refine blk_alloc ?_ _)); refine blk_put (cs := #[.int .u8 0, .int .u8 0, .int .u8 0, .int .u8 0, .int .u32 0, .int .u16 0, .int .u16 0, .int .u32 0, .int .u32 0, .int .u32 0, .int .u32 0, .string t204, .string t205, .string t206, .slice none 0 0]) ?_ 14 _ rfl; (with_reducible repeat (first | refine blk_drewN ?_ _ | refine blk_drew ?_ | refine blk_alloc ?_ _)); refine blk_put (cs := #[.int .u8 0, .int .u8 0, .int .u8 0, .int .u8 0, .int .u32 0, .int .u16 0, .int .u16 0, .int .u32 0, .int .u32 0, .int .u32 0, .int .u32 0, .string t204, .string t205, .string (⟨#[]⟩ : ByteArray), .slice none 0 0]) ?_ 13 _ rfl; (with_reducible repeat (first | refine blk_drewN ?_ _ | refine blk_drew ?_ | refine blk_alloc ?_ _)); refine blk_put (cs := #[.int .u8 0, .int .u8 0, .int .u8 0, .int .u8 0, .int .u32 0, .int .u16 0, .int .u16 0, .int .u32 0, .int .u32 0, .int .u32 0, .int .u32 0, .string t204, .string (⟨#[]⟩ : ByteArray), .string (⟨#[]⟩ : ByteArray), .slice none 0 0]) ?_ 12 _ rfl; (with_reducible repeat (first | refine blk_drewN ?_ _ | refine blk_drew ?_ | refine blk_alloc ?_ _)); refine blk_put (cs := #[.int .u8 0, .int .u8 0, .int .u8 0, .int .u8 0, .int .u32 0, .int .u16 0, .int .u16 0, .int .u32 0, .int .u32 0, .int .u32 0, .int .u32 0, .string (⟨#[]⟩ : ByteArray), .string (⟨#[]⟩ : ByteArray), .string (⟨#[]⟩ : ByteArray), .slice none 0 0]) ?_ 11 _ rfl; (with_reducible repeat (first | refine blk_drewN ?_ _ | refine blk_drew ?_ | refine blk_alloc ?_ _)); refine blk_put (cs := #[.int .u8 0, .int .u8 0, .int .u8 0, .int .u8 0, .int .u32 0, .int .u16 0, .int .u16 0, .int .u32 0, .int .u32 0, .int .u32 0, .int .u32 0, .string (⟨#[]⟩ : ByteArray), .string (⟨#[]⟩ : ByteArray), .string (⟨#[]⟩ : ByteArray), .slice none 0 0]) ?_ 10 _ rfl; (with_reducible repeat (first | refine blk_drewN ?_ _ | refine blk_drew ?_ | refine blk_alloc ?_ _)); refine blk_put (cs := #[.int .u8 0, .int .u8 0, .int .u8 0, .int .u8 0, .int .u32 0, .int .u16 0, .int .u16 0, .int .u32 0, .int .u32 0, .int .u32 0, .int .u32 0, .string (⟨#[]⟩ : ByteArray), .string (⟨#[]⟩ : ByteArray), .string (⟨#[]⟩ : ByteArray), .slice none 0 0]) ?_ 9 _ rfl; (with_reducible repeat (first | refine blk_drewN ?_ _ | refine blk_drew ?_ | refine blk_alloc ?_ _)); refine blk_put (cs := #[.int .u8 0, .int .u8 0, .int .u8 0, .int .u8 0, .int .u32 0, .int .u16 0, .int .u16 0, .int .u32 0, .int .u32 0, .int .u32 0, .int .u32 0, .string (⟨#[]⟩ : ByteArray), .string (⟨#[]⟩ : ByteArray), .string (⟨#[]⟩ : ByteArray), .slice none 0 0]) ?_ 8 _ rfl; (with_reducible repeat (first | refine blk_drewN ?_ _ | refine blk_drew ?_ | refine blk_alloc ?_ _)); refine blk_put (cs := #[.int .u8 0, .int .u8 0, .int .u8 0, .int .u8 0, .int .u32 0, .int .u16 0, .int .u16 0, .int .u32 0, .int .u32 0, .int .u32 0, .int .u32 0, .string (⟨#[]⟩ : ByteArray), .string (⟨#[]⟩ : ByteArray), .string (⟨#[]⟩ : ByteArray), .slice none 0 0]) ?_ 7 _ rfl; (with_reducible repeat (first | refine blk_drewN ?_ _ | refine blk_drew ?_ | refine blk_alloc ?_ _)); refine blk_put (cs := #[.int .u8 0, .int .u8 0, .int .u8 0, .int .u8 0, .int .u32 0, .int .u16 0, .int .u16 0, .int .u32 0, .int .u32 0, .int .u32 0, .int .u32 0, .string (⟨#[]⟩ : ByteArray), .string (⟨#[]⟩ : ByteArray), .string (⟨#[]⟩ : ByteArray), .slice none 0 0]) ?_ 6 _ rfl; (with_reducible repeat (first | refine blk_drewN ?_ _ | refine blk_drew ?_ | refine blk_alloc ?_ _)); refine blk_put (cs := #[.int .u8 0, .int .u8 0, .int .u8 0, .int .u8 0, .int .u32 0, .int .u16 0, .int .u16 0, .int .u32 0, .int .u32 0, .int .u32 0, .int .u32 0, .string (⟨#[]⟩ : ByteArray), .string (⟨#[]⟩ : ByteArray), .string (⟨#[]⟩ : ByteArray), .slice none 0 0]) ?_ 5 _ rfl; (with_reducible repeat (first | refine blk_drewN ?_ _ | refine blk_drew ?_ | refine blk_alloc ?_ _)); refine blk_put (cs := #[.int .u8 0, .int .u8 0, .int .u8 0, .int .u8 0, .int .u32 0, .int .u16 0, .int .u16 0, .int .u32 0, .int .u32 0, .int .u32 0, .int .u32 0, .string (⟨#[]⟩ : ByteArray), .string (⟨#[]⟩ : ByteArray), .string (⟨#[]⟩ : ByteArray), .slice none 0 0]) ?_ 4 _ rfl; (with_reducible repeat (first | refine blk_drewN ?_ _ | refine blk_drew ?_ | refine blk_alloc ?_ _)); refine blk_put (cs := #[.int .u8 0, .int .u8 0, .int .u8 0, .int .u8 0, .int .u32 0, .int .u16 0, .int .u16 0, .int .u32 0, .int .u32 0, .int .u32 0, .int .u32 0, .string (⟨#[]⟩ : ByteArray), .string (⟨#[]⟩ : ByteArray), .string (⟨#[]⟩ : ByteArray), .slice none 0 0]) ?_ 3 _ rfl; (with_reducible repeat (first | refine blk_drewN ?_ _ | refine blk_drew ?_ | refine blk_alloc ?_ _)); refine blk_put (cs := #[.int .u8 0, .int .u8 0, .int .u8 0, .int .u8 0, .int .u32 0, .int .u16 0, .int .u16 0, .int .u32 0, .int .u32 0, .int .u32 0, .int .u32 0, .string (⟨#[]⟩ : ByteArray), .string (⟨#[]⟩ : ByteArray), .string (⟨#[]⟩ : ByteArray), .slice none 0 0]) ?_ 2 _ rfl; (with_reducible repeat (first | refine blk_drewN ?_ _ | refine blk_drew ?_ | refine blk_alloc ?_ _)); refine blk_put (cs := #[.int .u8 0, .int .u8 0, .int .u8 0, .int .u8 0, .int .u32 0, .int .u16 0, .int .u16 0, .int .u32 0, .int .u32 0, .int .u32 0, .int .u32 0, .string (⟨#[]⟩ : ByteArray), .string (⟨#[]⟩ : ByteArray), .string (⟨#[]⟩ : ByteArray), .slice none 0 0]) ?_ 1 _ rfl; (with_reducible repeat (first | refine blk_drewN ?_ _ | refine blk_drew ?_ | refine blk_alloc ?_ _)); refine blk_put (cs := #[.int .u8 0, .int .u8 0, .int .u8 0, .int .u8 0, .int .u32 0, .int .u16 0, .int .u16 0, .int .u32 0, .int .u32 0, .int .u32 0, .int .u32 0, .string (⟨#[]⟩ : ByteArray), .string (⟨#[]⟩ : ByteArray), .string (⟨#[]⟩ : ByteArray), .slice none 0 0]) ?_ 0 _ rfl; (with_reducible repeat (first | refine blk_drewN ?_ _ | refine blk_drew ?_ | refine blk_alloc ?_ _)); exact BK203.out) Try.underlying26 rfl (by kernel_rfl)) rfl ?_
  exact ⟨_, by first | rfl | (simp [errW_none, errW_some] <;> rfl) | (simp [*, errW_none, errW_some] <;> rfl), by first | exact Kd.R_nil _ _ _ _ _ | exact Kd.N_nil _ _ _ _ _ | exact Kd.V_nil _ _ _ _ _ | exact Kd.Q_nil _ _ _ _ _ | exact Kd.S_nil _ _ _ _ _, by repeat (first | (with_reducible first | exact HB.out | apply below_alloc | apply pw_below_drewN | apply below_drew1 | refine below_set ?_ GE203.out) | exact HB.out)⟩

/-! ### tenancyref13_place: function 49 -/
def tenancyref13_place.l0 : Nat → List (S47) → Int → Int → Option (Int)
  | 0, _, _, _ => none
  | k + 1, x0, x1, x5 => if x5 < (x0.length : Int) then (if 0 ≤ x5 then (if ((rd_T47 x0 x5).f0) = x1 then (some x5) else (tenancyref13_place.l0 k x0 x1 (wrap64 (x5 + 1)))) else (none)) else (some (-1))
def tenancyref13_place.f (k : Nat) (l0 : List (S47)) (a1 : Int) : Option (Int) := tenancyref13_place.l0 k l0 a1 0
theorem tenancyref13_place.mono_l : ∀ k, (∀ y0 y1 y2, LeO (tenancyref13_place.l0 k y0 y1 y2) (tenancyref13_place.l0 (k + 1) y0 y1 y2))
  | 0 => fun _ _ _ r h => by simp [tenancyref13_place.l0] at h
  | k + 1 => by
    have ih0 := tenancyref13_place.mono_l k
    · intro y0 y1 y2
      unfold tenancyref13_place.l0
      repeat' first
      | (with_reducible exact ih0 _ _ _)
      | (with_reducible exact LeO.refl _)
      | (with_reducible exact LeO.none _)
      | (with_reducible refine LeO.ite ?_ ?_)
      | (with_reducible refine LeO.bind ?_ (fun _ => ?_))
      | exact ih0 _ _ _
      | exact LeO.none _
      | refine LeO.ite ?_ ?_
      | refine LeO.bind ?_ (fun _ => ?_)
theorem tenancyref13_place.mono : ∀ a0 a1 k, LeO (tenancyref13_place.f k a0 a1) (tenancyref13_place.f (k + 1) a0 a1) := by
  intro a0 a1 k
  have ih0 := tenancyref13_place.mono_l k
  unfold tenancyref13_place.f
  repeat' first
      | (with_reducible exact ih0 _ _ _)
      | (with_reducible exact LeO.refl _)
      | (with_reducible exact LeO.none _)
      | (with_reducible refine LeO.ite ?_ ?_)
      | (with_reducible refine LeO.bind ?_ (fun _ => ?_))
      | exact ih0 _ _ _
      | exact LeO.none _
      | refine LeO.ite ?_ ?_
      | refine LeO.bind ?_ (fun _ => ?_)
set_option maxHeartbeats 8000000 in
set_option maxRecDepth 100000 in
theorem tenancyref13_place.calls (k : Nat) (A0 : Option Addr) (c0 : Nat) (l0 : List (S47)) (a1 : Int) (r : Int) (w : World) (hr0 : Kd.C k47 w A0 l0.length l0) (hc0 : l0.length ≤ c0) (h : tenancyref13_place.f k l0 a1 = some r) :
    Calls Try.prog 49 #[.slice A0 l0.length c0, .int .u8 a1] w fun e w' => e = .returned (.int .i64 r) ∧ Drawn0 w w' := by
  have HR0 := Aside0.mk hr0
  have HC0 := Aside0.mk hc0
  clear hr0 hc0
  have H : (tenancyref13_place.l0 k l0 a1 0) = some r := h
  clear h
  have H' := Aside0.mk H
  clear H
  go_enter Try.func49, Try.ntmps49
  go_wp2
  go_loopg [5] k (fun kq v5 w' => ∃ (x5_1 : Int), v5 = .int .i64 x5_1 ∧ Aside0 (tenancyref13_place.l0 kq l0 a1 x5_1 = some r) ∧ Aside0 (kq ≤ k) ∧ Drawn0 w w')
  case atStart => exact ⟨(0), (by first | rfl | (simp; done) | (simp only [ByteArray.size_extract]; rw [Nat.min_eq_left (by omega)]; done) | (simp [*]; done)), H', ⟨Nat.le_refl _⟩, by repeat (first | exact Drawn0.refl _ | apply Drawn0.step)⟩
  case round =>
    clear H'
    try clear p2
    obtain ⟨x5_1, rfl, HA, HK1, ⟨m1, rfl⟩⟩ := hrel
    cases gk with
    | zero => exact absurd HA.out (by simp [tenancyref13_place.l0])
    | succ k1 =>
      have H := HA.out
      clear HA
      simp only [tenancyref13_place.l0] at H
      by_cases c3 : x5_1 < (l0.length : Int)
      · rw [if_pos c3] at H
        have c3b0 : decide (x5_1 < (l0.length : Int)) = true := decide_eq_true c3
        clear c3
        by_cases c4 : 0 ≤ x5_1
        · rw [if_pos c4] at H
          have c4b0 : decide (0 ≤ x5_1) = true := decide_eq_true c4
          clear c4
          by_cases c5 : ((rd_T47 l0 x5_1).f0) = a1
          · rw [if_pos c5] at H
            have c5b0 : (((rd_T47 l0 x5_1).f0) == a1) = true := beq_iff_eq.mpr c5
            have c5b1 : (((rd_T47 l0 x5_1).f0) != a1) = false := bne_eq_false_iff_eq.mpr c5
            clear c5
            obtain rfl := Option.some.inj H
            have p207 : 0 ≤ (x5_1 : Int) := of_decide_eq_true (by first | (with_reducible assumption) | assumption)
            have q207 : x5_1 < (l0.length : Int) := of_decide_eq_true (by first | (with_reducible assumption) | assumption)
            obtain ⟨ad207, e207, hx207_0, hx207_1⟩ := at_T47 HR0.out x5_1 p207 q207
            cases e207
            replace p207 := eq_true p207
            replace q207 := eq_true q207
            go_wp2
            go_ret
            exact ⟨by first | rfl | (simp; done) | (simp [*]; done), by repeat (first | exact Drawn0.refl _ | apply Drawn0.step)⟩
          · rw [if_neg c5] at H
            have c5b0 : (((rd_T47 l0 x5_1).f0) == a1) = false := beq_eq_false_iff_ne.mpr c5
            have c5b1 : (((rd_T47 l0 x5_1).f0) != a1) = true := bne_iff_ne.mpr c5
            have H' := Aside0.mk H
            clear H
            have p207 : 0 ≤ (x5_1 : Int) := of_decide_eq_true (by first | (with_reducible assumption) | assumption)
            have q207 : x5_1 < (l0.length : Int) := of_decide_eq_true (by first | (with_reducible assumption) | assumption)
            obtain ⟨ad207, e207, hx207_0, hx207_1⟩ := at_T47 HR0.out x5_1 p207 q207
            cases e207
            replace p207 := eq_true p207
            replace q207 := eq_true q207
            go_wp2
            go_roundg k1
            case measure => have := HK1.out; omega
            case rel => exact ⟨(wrap64 (x5_1 + 1)), (by first | rfl | (simp; done) | (simp only [ByteArray.size_extract]; rw [Nat.min_eq_left (by omega)]; done) | (simp [*]; done)), H', ⟨by have := HK1.out; omega⟩, by repeat (first | exact Drawn0.refl _ | apply Drawn0.step)⟩
        · rw [if_neg c4] at H
          exact absurd H (by simp)
      · rw [if_neg c3] at H
        have c3b0 : decide (x5_1 < (l0.length : Int)) = false := decide_eq_false c3
        clear c3
        obtain rfl := Option.some.inj H
        go_wp2
        go_ret
        exact ⟨by first | rfl | (simp; done) | (simp [*]; done), by repeat (first | exact Drawn0.refl _ | apply Drawn0.step)⟩

/-! ### tenancyref13_Emit: function 29 -/
mutual
def tenancyref13_Emit.l0 : Nat → List (S47) → List Int → Int → Option (ByteArray × Int)
  | 0, _, _, _ => none
  | k + 1, x0, x4, x5 => if x5 < (x0.length : Int) then (if 0 ≤ x5 then (if ((rd_T47 x0 x5).f0) = 0 then (tenancyref13_Emit.j1 k x0 x4 x5 true ((rd_T47 x0 x5).f0) ((rd_T47 x0 x5).f1)) else (if ((rd_T47 x0 x5).f0) = 255 then (tenancyref13_Emit.j1 k x0 x4 x5 true ((rd_T47 x0 x5).f0) ((rd_T47 x0 x5).f1)) else ((tenancyref13_place.f k x0 ((rd_T47 x0 x5).f0)).bind fun t216 => (if t216 < x5 then (tenancyref13_Emit.j1 k x0 x4 x5 true ((rd_T47 x0 x5).f0) ((rd_T47 x0 x5).f1)) else (tenancyref13_Emit.j1 k x0 x4 x5 (decide ((((rd_T47 x0 x5).f1).size : Int) > 4096)) ((rd_T47 x0 x5).f0) ((rd_T47 x0 x5).f1)))))) else (none)) else (if x4.length < 140737488355328 then (some (strOfNums (x4 ++ [255]), 0)) else (none))
def tenancyref13_Emit.j1 : Nat → List (S47) → List Int → Int → Bool → Int → ByteArray → Option (ByteArray × Int)
  | 0, _, _, _, _, _, _ => none
  | k + 1, x0, x4, x5, x43, x216000, x216001 => if x43 = true then (some ((⟨#[]⟩ : ByteArray), 130)) else (tenancyref13_Emit.l1 k x0 x4 x5 x216001 x216000 x216001)
def tenancyref13_Emit.l1 : Nat → List (S47) → List Int → Int → ByteArray → Int → ByteArray → Option (ByteArray × Int)
  | 0, _, _, _, _, _, _ => none
  | k + 1, x0, x4, x5, x7, x216000, x216001 => if (x7.size : Int) > 255 then ((some (([x216000, 255] : List Int) : List Int)).bind fun y217 => (if x4.length + y217.length < 140737488355328 then ((some (x4 ++ y217 : List Int)).bind fun y220 => (if 0 ≤ 255 then (if 255 ≤ (x7.size : Int) then (if y220.length + (x7.extract 0 255).size < 140737488355328 then (tenancyref13_Emit.l1 k x0 (y220 ++ bytesOf (x7.extract 0 255)) x5 (x7.extract 255 x7.size) x216000 x216001) else (none)) else (none)) else (none))) else (none))) else ((some (([x216000, ((x7.size : Int)) % 256] : List Int) : List Int)).bind fun y226 => (if x4.length + y226.length < 140737488355328 then ((some (x4 ++ y226 : List Int)).bind fun y229 => (if y229.length + x7.size < 140737488355328 then (tenancyref13_Emit.l0 k x0 (y229 ++ bytesOf x7) (wrap64 (x5 + 1))) else (none))) else (none)))
end
def tenancyref13_Emit.f (k : Nat) (l0 : List (S47)) : Option (ByteArray × Int) := if (l0.length : Int) > 128 then (some ((⟨#[]⟩ : ByteArray), 6)) else (tenancyref13_Emit.l0 k l0 (([] : List Int)) 0)
theorem tenancyref13_Emit.mono_l : ∀ k, (∀ y0 y1 y2, LeO (tenancyref13_Emit.l0 k y0 y1 y2) (tenancyref13_Emit.l0 (k + 1) y0 y1 y2)) ∧ (∀ y0 y1 y2 y3 y4 y5, LeO (tenancyref13_Emit.j1 k y0 y1 y2 y3 y4 y5) (tenancyref13_Emit.j1 (k + 1) y0 y1 y2 y3 y4 y5)) ∧ (∀ y0 y1 y2 y3 y4 y5, LeO (tenancyref13_Emit.l1 k y0 y1 y2 y3 y4 y5) (tenancyref13_Emit.l1 (k + 1) y0 y1 y2 y3 y4 y5))
  | 0 => ⟨fun _ _ _ r h => by simp [tenancyref13_Emit.l0] at h, fun _ _ _ _ _ _ r h => by simp [tenancyref13_Emit.j1] at h, fun _ _ _ _ _ _ r h => by simp [tenancyref13_Emit.l1] at h⟩
  | k + 1 => by
    obtain ⟨ih0, ih1, ih2⟩ := tenancyref13_Emit.mono_l k
    refine ⟨?_, ?_, ?_⟩
    · intro y0 y1 y2
      unfold tenancyref13_Emit.l0
      repeat' first
      | (with_reducible exact ih0 _ _ _)
      | (with_reducible exact ih1 _ _ _ _ _ _)
      | (with_reducible exact ih2 _ _ _ _ _ _)
      | (with_reducible exact tenancyref13_place.mono _ _ _)
      | (with_reducible exact LeO.refl _)
      | (with_reducible exact LeO.none _)
      | (with_reducible refine LeO.ite ?_ ?_)
      | (with_reducible refine LeO.bind ?_ (fun _ => ?_))
      | exact ih0 _ _ _
      | exact ih1 _ _ _ _ _ _
      | exact ih2 _ _ _ _ _ _
      | exact tenancyref13_place.mono _ _ _
      | exact LeO.none _
      | refine LeO.ite ?_ ?_
      | refine LeO.bind ?_ (fun _ => ?_)
    · intro y0 y1 y2 y3 y4 y5
      unfold tenancyref13_Emit.j1
      repeat' first
      | (with_reducible exact ih0 _ _ _)
      | (with_reducible exact ih1 _ _ _ _ _ _)
      | (with_reducible exact ih2 _ _ _ _ _ _)
      | (with_reducible exact tenancyref13_place.mono _ _ _)
      | (with_reducible exact LeO.refl _)
      | (with_reducible exact LeO.none _)
      | (with_reducible refine LeO.ite ?_ ?_)
      | (with_reducible refine LeO.bind ?_ (fun _ => ?_))
      | exact ih0 _ _ _
      | exact ih1 _ _ _ _ _ _
      | exact ih2 _ _ _ _ _ _
      | exact tenancyref13_place.mono _ _ _
      | exact LeO.none _
      | refine LeO.ite ?_ ?_
      | refine LeO.bind ?_ (fun _ => ?_)
    · intro y0 y1 y2 y3 y4 y5
      unfold tenancyref13_Emit.l1
      repeat' first
      | (with_reducible exact ih0 _ _ _)
      | (with_reducible exact ih1 _ _ _ _ _ _)
      | (with_reducible exact ih2 _ _ _ _ _ _)
      | (with_reducible exact tenancyref13_place.mono _ _ _)
      | (with_reducible exact LeO.refl _)
      | (with_reducible exact LeO.none _)
      | (with_reducible refine LeO.ite ?_ ?_)
      | (with_reducible refine LeO.bind ?_ (fun _ => ?_))
      | exact ih0 _ _ _
      | exact ih1 _ _ _ _ _ _
      | exact ih2 _ _ _ _ _ _
      | exact tenancyref13_place.mono _ _ _
      | exact LeO.none _
      | refine LeO.ite ?_ ?_
      | refine LeO.bind ?_ (fun _ => ?_)
theorem tenancyref13_Emit.mono : ∀ a0 k, LeO (tenancyref13_Emit.f k a0) (tenancyref13_Emit.f (k + 1) a0) := by
  intro a0 k
  obtain ⟨ih0, ih1, ih2⟩ := tenancyref13_Emit.mono_l k
  unfold tenancyref13_Emit.f
  repeat' first
      | (with_reducible exact ih0 _ _ _)
      | (with_reducible exact ih1 _ _ _ _ _ _)
      | (with_reducible exact ih2 _ _ _ _ _ _)
      | (with_reducible exact tenancyref13_place.mono _ _ _)
      | (with_reducible exact LeO.refl _)
      | (with_reducible exact LeO.none _)
      | (with_reducible refine LeO.ite ?_ ?_)
      | (with_reducible refine LeO.bind ?_ (fun _ => ?_))
      | exact ih0 _ _ _
      | exact ih1 _ _ _ _ _ _
      | exact ih2 _ _ _ _ _ _
      | exact tenancyref13_place.mono _ _ _
      | exact LeO.none _
      | refine LeO.ite ?_ ?_
      | refine LeO.bind ?_ (fun _ => ?_)
set_option maxHeartbeats 8000000 in
set_option maxRecDepth 100000 in
theorem tenancyref13_Emit.calls (k : Nat) (A0 : Option Addr) (c0 : Nat) (l0 : List (S47)) (r1 : ByteArray) (r2 : Int) (w : World) (hr0 : Kd.C k47 w A0 l0.length l0) (hc0 : l0.length ≤ c0) (h : tenancyref13_Emit.f k l0 = some (r1, r2)) :
    Calls Try.prog 29 #[.slice A0 l0.length c0] w fun e w' => e = .returned (.tuple #[.string r1, .int .i64 r2]) ∧ Below w.heap.size w w' := by
  have hu47 := Try.underlying47
  have HR0 := Aside0.mk hr0
  have HC0 := Aside0.mk hc0
  clear hr0 hc0
  have HB := Aside0.mk (Below.refl w.heap.size w)
  have H : (if (l0.length : Int) > 128 then (some ((⟨#[]⟩ : ByteArray), 6)) else (tenancyref13_Emit.l0 k l0 (([] : List Int)) 0)) = some (r1, r2) := h
  clear h
  by_cases c2 : (l0.length : Int) > 128
  · rw [if_pos c2] at H
    have c2b0 : decide (128 < (l0.length : Int)) = true := decide_eq_true c2
    have c2b1 : decide (128 < l0.length) = true := decide_eq_true (by omega)
    clear c2
    simp only [Option.some.injEq, Prod.mk.injEq] at H
    obtain ⟨rfl, rfl⟩ := H
    go_enter Try.func29, Try.ntmps29
    go_wp2
    go_ret2
    exact ⟨by first | rfl | (simp [errW_none, errW_some] <;> rfl) | (simp [*, errW_none, errW_some] <;> rfl), by repeat (first | (with_reducible first | exact HB.out | apply below_alloc | apply pw_below_drewN | apply below_drew1) | exact HB.out)⟩
  · rw [if_neg c2] at H
    have c2b0 : decide (128 < (l0.length : Int)) = false := decide_eq_false c2
    have c2b1 : decide (128 < l0.length) = false := decide_eq_false (by omega)
    clear c2
    obtain ⟨y208, hy208⟩ : ∃ y_ : List Int, y_ = (([] : List Int)) := ⟨_, rfl⟩
    replace H : (tenancyref13_Emit.l0 k l0 y208 0) = some (r1, r2) := by first | (rw [hy208]; with_reducible exact H) | (have H2_ := (Option.bind_some _ _).symm.trans H; rw [hy208]; with_reducible exact H2_) | (have H2_ := (Option.bind_some _ _).symm.trans H; with_reducible exact H2_) | with_reducible exact H | (rw [hy208]; exact H) | exact H
    have Ny208 := Aside0.mk hy208
    clear hy208
    have H' := Aside0.mk H
    clear H
    go_enter Try.func29, Try.ntmps29
    go_wp2_with (first | ((with_reducible refine gate_dst (N := 11) rfl ?_); (try (refine gate_guard (by rfl) ?_; dsimp only)); refine Kd.R_lit (Kd.int .u8) _ 5 ?hg (N := 11) ?hd (xs := ([] : List Int)) (inner := []) (ok := fun _ => True) (okp := fun _ => True) ?hr ?hp (fun _ hk => hk) trivial (Below.refl _ _) (Nat.le_refl _) (by simp) ?_; (case hd => rfl); (case hg => rfl); (case hr => first | (go_simp; done) | (go_simp; rfl)); (case hp => exact (Reps.none _ _)); intro v209 w3 ho4 hb hg_ hnew_; clear hg_ hnew_; (first | rw [← Ny208.out] at ho4 | (simp only [Int.reduceToNat] at ho4; rw [← Ny208.out] at ho4)); have n0_ := Aside0.mk (Kd.R_lower ho4 (below_size (by repeat (first | (with_reducible first | exact HB.out | apply below_alloc | apply pw_below_drewN | apply below_drew1) | exact HB.out)))); have n1_ := Aside0.mk (below_step (by repeat (first | (with_reducible first | exact HB.out | apply below_alloc | apply pw_below_drewN | apply below_drew1) | exact HB.out)) hb); clear HB; have HO210 := n0_; have HB := n1_; clear n0_ n1_; clear hb ho4))
    go_loopg [4, 5] k (fun kq v4 v5 w' => ∃ (x4_1 : List Int) (x5_1 : Int), v5 = .int .i64 x5_1 ∧ Aside0 (tenancyref13_Emit.l0 kq l0 x4_1 x5_1 = some (r1, r2)) ∧ Aside0 (kq ≤ k) ∧ Aside0 (Kd.R (Kd.int .u8) 5 w' w.heap.size (fun _ => True) v4 x4_1) ∧ Aside0 (Below w.heap.size w w'))
    case atStart => exact ⟨(y208), (0), (by first | rfl | (simp; done) | (simp only [ByteArray.size_extract]; rw [Nat.min_eq_left (by omega)]; done) | (simp [*]; done)), H', ⟨Nat.le_refl _⟩, ⟨by (with_reducible repeat (first | apply Kd.R_alloc | apply Kd.R_drewN | apply Kd.R_drew)); exact HO210.out⟩, ⟨by repeat (first | (with_reducible first | exact HB.out | apply below_alloc | apply pw_below_drewN | apply below_drew1) | exact HB.out)⟩⟩
    case round =>
      clear H'
      try clear c2
      try clear c2b0
      try clear c2b1
      try clear p2
      obtain ⟨x4_1, x5_1, rfl, HA, HK1, HO_4, HB⟩ := hrel
      cases gk with
      | zero => exact absurd HA.out (by simp [tenancyref13_Emit.l0])
      | succ k1 =>
        have H := HA.out
        clear HA
        simp only [tenancyref13_Emit.l0] at H
        by_cases c5 : x5_1 < (l0.length : Int)
        · rw [if_pos c5] at H
          have c5b0 : decide (x5_1 < (l0.length : Int)) = true := decide_eq_true c5
          clear c5
          by_cases c6 : 0 ≤ x5_1
          · rw [if_pos c6] at H
            have c6b0 : decide (0 ≤ x5_1) = true := decide_eq_true c6
            clear c6
            have HC7 := Aside0.mk H
            clear H
            have p214 : 0 ≤ (x5_1 : Int) := of_decide_eq_true (by first | (with_reducible assumption) | assumption)
            have q214 : x5_1 < (l0.length : Int) := of_decide_eq_true (by first | (with_reducible assumption) | assumption)
            obtain ⟨ad214, e214, hx214_0, hx214_1⟩ := at_T47 HR0.out x5_1 p214 q214
            cases e214
            replace hx214_0 := (HB.out.cell (World.block_lt_of_cell? w _ hx214_0)).trans hx214_0
            replace hx214_1 := (HB.out.cell (World.block_lt_of_cell? w _ hx214_1)).trans hx214_1
            replace p214 := eq_true p214
            replace q214 := eq_true q214
            go_upto_region 8 with (first | ((with_reducible refine gate_dst (N := 6) rfl ?_); (try (refine gate_guard (by rfl) ?_; dsimp only)); refine box_event ?hg (N := 6) ?hd (cs := #[.int .u8 0, .string (⟨#[]⟩ : ByteArray)]) (t := 47) ?hr ?_; (case hd => rfl); (case hg => rfl); (case hr => first | (go_simp; done) | (go_simp; rfl)); intro gb215 hg w8 hbox hb; have n0_ := Aside0.mk (Kd.R_below (by (with_reducible repeat (first | apply Kd.R_alloc | apply Kd.R_drewN | apply Kd.R_drew)); exact HO_4.out) hb); have n1_ := Aside0.mk (below_step (by repeat (first | (with_reducible first | exact HB.out | apply below_alloc | apply pw_below_drewN | apply below_drew1) | exact HB.out)) hb); have n2_ := Aside0.mk (hbox); have n3_ := Aside0.mk ((by rw [hg]; exact (below_size (by repeat (first | (with_reducible first | exact HB.out | apply below_alloc | apply pw_below_drewN | apply below_drew1) | exact HB.out))) : w.heap.size ≤ gb215)); have n4_ := Aside0.mk ((by rw [hg]; exact (below_size (by repeat (first | (with_reducible first | exact HB.out | apply below_alloc | apply pw_below_drewN | apply below_drew1) | exact HB.out))) : w.heap.size ≤ gb215)); clear HO_4; clear HB; have HO_4 := n0_; have HB := n1_; have BK215 := n2_; have GW215 := n3_; have GE215 := n4_; clear n0_ n1_ n2_ n3_ n4_; clear hb hbox hg; obtain ⟨hcz9_0, hcz9_1⟩ := XRun.bc2 BK215.out; obtain ⟨hfz9_0, hfz9_1⟩ := XRun.bf2 BK215.out))
            (try simp only [Act.put, List.setIfInBounds_toArray, List.set_cons_zero, List.set_cons_succ])
            go_cut [43] (fun v43 wc => ∃ (kq : Nat) (x43_6 : Bool), v43 = .bool x43_6 ∧ Aside0 (tenancyref13_Emit.j1 kq l0 x4_1 x5_1 x43_6 ((rd_T47 l0 x5_1).f0) ((rd_T47 l0 x5_1).f1) = some (r1, r2)) ∧ Aside0 (kq ≤ k1) ∧ Aside0 (Kd.R (Kd.int .u8) 5 wc w.heap.size (fun _ => True) u4 x4_1) ∧ Aside0 (wc.heap[gb215]? = some (.cells #[.int .u8 ((rd_T47 l0 x5_1).f0), .string ((rd_T47 l0 x5_1).f1)] 47 (0, 0))) ∧ Aside0 (Below w.heap.size w wc))
            case first =>
              have H := HC7.out
              clear HC7
              by_cases c10 : ((rd_T47 l0 x5_1).f0) = 0
              · rw [if_pos c10] at H
                have c10b0 : (((rd_T47 l0 x5_1).f0) == 0) = true := beq_iff_eq.mpr c10
                have c10b1 : (((rd_T47 l0 x5_1).f0) != 0) = false := bne_eq_false_iff_eq.mpr c10
                clear c10
                (first | rw [c10b0] | (simp only [i64_w, i32_w]; rw [c10b0]) | skip)
                have H' := Aside0.mk H
                clear H
                obtain ⟨hcz11_0, hcz11_1⟩ := XRun.bc2 BK215.out
                obtain ⟨hfz11_0, hfz11_1⟩ := XRun.bf2 BK215.out
                go_wp2
                go_meet
                case rel => exact ⟨_, (true), (by first | rfl | (simp; done) | (simp only [ByteArray.size_extract]; rw [Nat.min_eq_left (by omega)]; done) | (simp [*]; done)), H', ⟨by have := HK1.out; first | omega | exact Nat.le_refl _⟩, ⟨by (with_reducible repeat (first | apply Kd.R_alloc | apply Kd.R_drewN | apply Kd.R_drew)); exact Kd.R_mono (Kd.R_far (p := ⟨gb215, 1, none⟩) (Kd.R_far (p := ⟨gb215, 0, none⟩) (Kd.R_types HO_4.out BK215.out (by decide)) (fun _ hk => hk.2) (.int .u8 ((rd_T47 l0 x5_1).f0))) (fun _ hk => hk.2) (.string ((rd_T47 l0 x5_1).f1))) (fun _ hk => trivial)⟩, ⟨by (with_reducible repeat (first | refine blk_drewN ?_ _ | refine blk_drew ?_ | refine blk_alloc ?_ _)); refine blk_put (cs := #[.int .u8 ((rd_T47 l0 x5_1).f0), .string (⟨#[]⟩ : ByteArray)]) ?_ 1 _ rfl; (with_reducible repeat (first | refine blk_drewN ?_ _ | refine blk_drew ?_ | refine blk_alloc ?_ _)); refine blk_put (cs := #[.int .u8 0, .string (⟨#[]⟩ : ByteArray)]) ?_ 0 _ rfl; (with_reducible repeat (first | refine blk_drewN ?_ _ | refine blk_drew ?_ | refine blk_alloc ?_ _)); exact BK215.out⟩, ⟨by repeat (first | (with_reducible first | exact HB.out | apply below_alloc | apply pw_below_drewN | apply below_drew1 | refine below_set ?_ GE215.out) | exact HB.out)⟩⟩
              · rw [if_neg c10] at H
                have c10b0 : (((rd_T47 l0 x5_1).f0) == 0) = false := beq_eq_false_iff_ne.mpr c10
                have c10b1 : (((rd_T47 l0 x5_1).f0) != 0) = true := bne_iff_ne.mpr c10
                (first | rw [c10b0] | (simp only [i64_w, i32_w]; rw [c10b0]) | skip)
                by_cases c12 : ((rd_T47 l0 x5_1).f0) = 255
                · rw [if_pos c12] at H
                  have c12b0 : (((rd_T47 l0 x5_1).f0) == 255) = true := beq_iff_eq.mpr c12
                  have c12b1 : (((rd_T47 l0 x5_1).f0) != 255) = false := bne_eq_false_iff_eq.mpr c12
                  clear c12
                  have H' := Aside0.mk H
                  clear H
                  obtain ⟨hcz13_0, hcz13_1⟩ := XRun.bc2 BK215.out
                  obtain ⟨hfz13_0, hfz13_1⟩ := XRun.bf2 BK215.out
                  go_wp2
                  go_meet
                  case rel => exact ⟨_, (true), (by first | rfl | (simp; done) | (simp only [ByteArray.size_extract]; rw [Nat.min_eq_left (by omega)]; done) | (simp [*]; done)), H', ⟨by have := HK1.out; first | omega | exact Nat.le_refl _⟩, ⟨by (with_reducible repeat (first | apply Kd.R_alloc | apply Kd.R_drewN | apply Kd.R_drew)); exact Kd.R_mono (Kd.R_far (p := ⟨gb215, 1, none⟩) (Kd.R_far (p := ⟨gb215, 0, none⟩) (Kd.R_types HO_4.out BK215.out (by decide)) (fun _ hk => hk.2) (.int .u8 ((rd_T47 l0 x5_1).f0))) (fun _ hk => hk.2) (.string ((rd_T47 l0 x5_1).f1))) (fun _ hk => trivial)⟩, ⟨by (with_reducible repeat (first | refine blk_drewN ?_ _ | refine blk_drew ?_ | refine blk_alloc ?_ _)); refine blk_put (cs := #[.int .u8 ((rd_T47 l0 x5_1).f0), .string (⟨#[]⟩ : ByteArray)]) ?_ 1 _ rfl; (with_reducible repeat (first | refine blk_drewN ?_ _ | refine blk_drew ?_ | refine blk_alloc ?_ _)); refine blk_put (cs := #[.int .u8 0, .string (⟨#[]⟩ : ByteArray)]) ?_ 0 _ rfl; (with_reducible repeat (first | refine blk_drewN ?_ _ | refine blk_drew ?_ | refine blk_alloc ?_ _)); exact BK215.out⟩, ⟨by repeat (first | (with_reducible first | exact HB.out | apply below_alloc | apply pw_below_drewN | apply below_drew1 | refine below_set ?_ GE215.out) | exact HB.out)⟩⟩
                · rw [if_neg c12] at H
                  have c12b0 : (((rd_T47 l0 x5_1).f0) == 255) = false := beq_eq_false_iff_ne.mpr c12
                  have c12b1 : (((rd_T47 l0 x5_1).f0) != 255) = true := bne_iff_ne.mpr c12
                  replace H := Option.bind_eq_some_iff.mp H
                  obtain ⟨t216, A140, H⟩ := H
                  replace H : (if t216 < x5_1 then (tenancyref13_Emit.j1 k1 l0 x4_1 x5_1 true ((rd_T47 l0 x5_1).f0) ((rd_T47 l0 x5_1).f1)) else (tenancyref13_Emit.j1 k1 l0 x4_1 x5_1 (decide ((((rd_T47 l0 x5_1).f1).size : Int) > 4096)) ((rd_T47 l0 x5_1).f0) ((rd_T47 l0 x5_1).f1))) = some (r1, r2) := H
                  have A14 := Aside0.mk A140
                  clear A140
                  by_cases c15 : t216 < x5_1
                  · rw [if_pos c15] at H
                    have c15b0 : decide (t216 < x5_1) = true := decide_eq_true c15
                    clear c15
                    have H' := Aside0.mk H
                    clear H
                    obtain ⟨hcz16_0, hcz16_1⟩ := XRun.bc2 BK215.out
                    obtain ⟨hfz16_0, hfz16_1⟩ := XRun.bf2 BK215.out
                    go_wp2_with (first | (go_at_call 49; (with_reducible refine (tenancyref13_place.calls k1 _ _ l0 ((rd_T47 l0 x5_1).f0) t216 _ ?side1 ?side2 A14.out).mono ?_); (case side1 => exact Kd.C_below HR0.out (by repeat (first | (with_reducible first | exact HB.out | apply below_alloc | apply pw_below_drewN | apply below_drew1 | refine below_set ?_ GE215.out) | exact HB.out))); (case side2 => exact HC0.out); rintro e w' ⟨rfl, ⟨nd, rfl⟩⟩))
                    go_meet
                    case rel => exact ⟨_, (true), (by first | rfl | (simp; done) | (simp only [ByteArray.size_extract]; rw [Nat.min_eq_left (by omega)]; done) | (simp [*]; done)), H', ⟨by have := HK1.out; first | omega | exact Nat.le_refl _⟩, ⟨by (with_reducible repeat (first | apply Kd.R_alloc | apply Kd.R_drewN | apply Kd.R_drew)); exact Kd.R_mono (Kd.R_far (p := ⟨gb215, 1, none⟩) (Kd.R_far (p := ⟨gb215, 0, none⟩) (Kd.R_types HO_4.out BK215.out (by decide)) (fun _ hk => hk.2) (.int .u8 ((rd_T47 l0 x5_1).f0))) (fun _ hk => hk.2) (.string ((rd_T47 l0 x5_1).f1))) (fun _ hk => trivial)⟩, ⟨by (with_reducible repeat (first | refine blk_drewN ?_ _ | refine blk_drew ?_ | refine blk_alloc ?_ _)); refine blk_put (cs := #[.int .u8 ((rd_T47 l0 x5_1).f0), .string (⟨#[]⟩ : ByteArray)]) ?_ 1 _ rfl; (with_reducible repeat (first | refine blk_drewN ?_ _ | refine blk_drew ?_ | refine blk_alloc ?_ _)); refine blk_put (cs := #[.int .u8 0, .string (⟨#[]⟩ : ByteArray)]) ?_ 0 _ rfl; (with_reducible repeat (first | refine blk_drewN ?_ _ | refine blk_drew ?_ | refine blk_alloc ?_ _)); exact BK215.out⟩, ⟨by repeat (first | (with_reducible first | exact HB.out | apply below_alloc | apply pw_below_drewN | apply below_drew1 | refine below_set ?_ GE215.out) | exact HB.out)⟩⟩
                  · rw [if_neg c15] at H
                    have c15b0 : decide (t216 < x5_1) = false := decide_eq_false c15
                    clear c15
                    have H' := Aside0.mk H
                    clear H
                    obtain ⟨hcz17_0, hcz17_1⟩ := XRun.bc2 BK215.out
                    obtain ⟨hfz17_0, hfz17_1⟩ := XRun.bf2 BK215.out
                    go_wp2_with (first | (go_at_call 49; (with_reducible refine (tenancyref13_place.calls k1 _ _ l0 ((rd_T47 l0 x5_1).f0) t216 _ ?side1 ?side2 A14.out).mono ?_); (case side1 => exact Kd.C_below HR0.out (by repeat (first | (with_reducible first | exact HB.out | apply below_alloc | apply pw_below_drewN | apply below_drew1 | refine below_set ?_ GE215.out) | exact HB.out))); (case side2 => exact HC0.out); rintro e w' ⟨rfl, ⟨nd, rfl⟩⟩))
                    go_meet
                    case rel => exact ⟨_, (decide ((((rd_T47 l0 x5_1).f1).size : Int) > 4096)), (by first | rfl | (simp; done) | (simp only [ByteArray.size_extract]; rw [Nat.min_eq_left (by omega)]; done) | (simp [*]; done)), H', ⟨by have := HK1.out; first | omega | exact Nat.le_refl _⟩, ⟨by (with_reducible repeat (first | apply Kd.R_alloc | apply Kd.R_drewN | apply Kd.R_drew)); exact Kd.R_mono (Kd.R_far (p := ⟨gb215, 1, none⟩) (Kd.R_far (p := ⟨gb215, 0, none⟩) (Kd.R_types HO_4.out BK215.out (by decide)) (fun _ hk => hk.2) (.int .u8 ((rd_T47 l0 x5_1).f0))) (fun _ hk => hk.2) (.string ((rd_T47 l0 x5_1).f1))) (fun _ hk => trivial)⟩, ⟨by (with_reducible repeat (first | refine blk_drewN ?_ _ | refine blk_drew ?_ | refine blk_alloc ?_ _)); refine blk_put (cs := #[.int .u8 ((rd_T47 l0 x5_1).f0), .string (⟨#[]⟩ : ByteArray)]) ?_ 1 _ rfl; (with_reducible repeat (first | refine blk_drewN ?_ _ | refine blk_drew ?_ | refine blk_alloc ?_ _)); refine blk_put (cs := #[.int .u8 0, .string (⟨#[]⟩ : ByteArray)]) ?_ 0 _ rfl; (with_reducible repeat (first | refine blk_drewN ?_ _ | refine blk_drew ?_ | refine blk_alloc ?_ _)); exact BK215.out⟩, ⟨by repeat (first | (with_reducible first | exact HB.out | apply below_alloc | apply pw_below_drewN | apply below_drew1 | refine below_set ?_ GE215.out) | exact HB.out)⟩⟩
            case rest =>
              clear HC7
              try clear c1
              try clear c2
              try clear c2b0
              try clear c2b1
              try clear p2
              try clear q2
              try clear hx2
              try clear c5
              try clear c5b0
              try clear c6
              try clear c6b0
              try clear c10
              try clear c10b0
              try clear c10b1
              try clear c12
              try clear c12b0
              try clear c12b1
              try clear c15
              try clear c15b0
              try clear hcz11_0
              try clear hcz11_1
              try clear hcz13_0
              try clear hcz13_1
              try clear hcz16_0
              try clear hcz16_1
              try clear hcz17_0
              try clear hcz17_1
              try clear hcz9_0
              try clear hcz9_1
              try clear hfz11_0
              try clear hfz11_1
              try clear hfz13_0
              try clear hfz13_1
              try clear hfz16_0
              try clear hfz16_1
              try clear hfz17_0
              try clear hfz17_1
              try clear hfz9_0
              try clear hfz9_1
              try clear hx214_0
              try clear hx214_1
              try clear p2
              try clear p214
              try clear q214
              obtain ⟨kq, x43_6, rfl, HA, HJ6, HO_4, BK215, HB⟩ := hcut
              cases kq with
              | zero => exact absurd HA.out (by simp [tenancyref13_Emit.j1])
              | succ kj6 =>
                have H := HA.out
                clear HA
                simp only [tenancyref13_Emit.j1] at H
                by_cases c18 : x43_6 = true
                · subst c18
                  have H1 : (some ((⟨#[]⟩ : ByteArray), 130)) = some (r1, r2) := by rw [if_pos rfl] at H; exact H
                  clear H
                  have H := H1
                  clear H1
                  simp only [Option.some.injEq, Prod.mk.injEq] at H
                  obtain ⟨rfl, rfl⟩ := H
                  go_wp2
                  go_ret2
                  exact ⟨by first | rfl | (simp [errW_none, errW_some] <;> rfl) | (simp [*, errW_none, errW_some] <;> rfl), by repeat (first | (with_reducible first | exact HB.out | apply below_alloc | apply pw_below_drewN | apply below_drew1 | refine below_set ?_ GE215.out) | exact HB.out)⟩
                · replace c18 := Bool.eq_false_iff.mpr c18
                  subst c18
                  have H1 : (tenancyref13_Emit.l1 kj6 l0 x4_1 x5_1 ((rd_T47 l0 x5_1).f1) ((rd_T47 l0 x5_1).f0) ((rd_T47 l0 x5_1).f1)) = some (r1, r2) := by rw [if_neg (show ¬ (false = true) by decide)] at H; exact H
                  clear H
                  have H := H1
                  clear H1
                  have H' := Aside0.mk H
                  clear H
                  obtain ⟨hcz19_0, hcz19_1⟩ := XRun.bc2 BK215.out
                  obtain ⟨hfz19_0, hfz19_1⟩ := XRun.bf2 BK215.out
                  go_wp2
                  go_loopg [4, 7] kj6 (fun kq v4 v7 w' => ∃ (x4_3 : List Int) (x7_3 : ByteArray), v7 = .string x7_3 ∧ Aside0 (tenancyref13_Emit.l1 kq l0 x4_3 x5_1 x7_3 ((rd_T47 l0 x5_1).f0) ((rd_T47 l0 x5_1).f1) = some (r1, r2)) ∧ Aside0 (kq ≤ kj6) ∧ Aside0 (Kd.R (Kd.int .u8) 5 w' w.heap.size (fun _ => True) v4 x4_3) ∧ Aside0 (w'.heap[gb215]? = some (.cells #[.int .u8 ((rd_T47 l0 x5_1).f0), .string ((rd_T47 l0 x5_1).f1)] 47 (0, 0))) ∧ Aside0 (Below w.heap.size w w'))
                  case atStart => exact ⟨(x4_1), (((rd_T47 l0 x5_1).f1)), (by first | rfl | (simp; done) | (simp only [ByteArray.size_extract]; rw [Nat.min_eq_left (by omega)]; done) | (simp [*]; done)), H', ⟨Nat.le_refl _⟩, ⟨by (with_reducible repeat (first | apply Kd.R_alloc | apply Kd.R_drewN | apply Kd.R_drew)); exact HO_4.out⟩, ⟨by (with_reducible repeat (first | refine blk_drewN ?_ _ | refine blk_drew ?_ | refine blk_alloc ?_ _)); exact BK215.out⟩, ⟨by repeat (first | (with_reducible first | exact HB.out | apply below_alloc | apply pw_below_drewN | apply below_drew1 | refine below_set ?_ GE215.out) | exact HB.out)⟩⟩
                  case round =>
                    clear H'
                    try clear c1
                    try clear c2
                    try clear c2b0
                    try clear c2b1
                    try clear p2
                    try clear q2
                    try clear hx2
                    try clear c5
                    try clear c5b0
                    try clear c6
                    try clear c6b0
                    try clear c10
                    try clear c10b0
                    try clear c10b1
                    try clear c12
                    try clear c12b0
                    try clear c12b1
                    try clear c15
                    try clear c15b0
                    try clear c18
                    try clear hcz11_0
                    try clear hcz11_1
                    try clear hcz13_0
                    try clear hcz13_1
                    try clear hcz16_0
                    try clear hcz16_1
                    try clear hcz17_0
                    try clear hcz17_1
                    try clear hcz19_0
                    try clear hcz19_1
                    try clear hcz9_0
                    try clear hcz9_1
                    try clear hfz11_0
                    try clear hfz11_1
                    try clear hfz13_0
                    try clear hfz13_1
                    try clear hfz16_0
                    try clear hfz16_1
                    try clear hfz17_0
                    try clear hfz17_1
                    try clear hfz19_0
                    try clear hfz19_1
                    try clear hfz9_0
                    try clear hfz9_1
                    try clear hx214_0
                    try clear hx214_1
                    try clear p2
                    try clear p214
                    try clear q2
                    try clear q214
                    obtain ⟨x4_3, x7_3, rfl, HA, HK3, HO_4, BK215, HB⟩ := hrel
                    cases gk with
                    | zero => exact absurd HA.out (by simp [tenancyref13_Emit.l1])
                    | succ k3 =>
                      have H := HA.out
                      clear HA
                      simp only [tenancyref13_Emit.l1] at H
                      by_cases c20 : (x7_3.size : Int) > 255
                      · rw [if_pos c20] at H
                        have c20b0 : decide (255 < (x7_3.size : Int)) = true := decide_eq_true c20
                        have c20b1 : decide (255 < x7_3.size) = true := decide_eq_true (by omega)
                        clear c20
                        obtain ⟨y217, hy217⟩ : ∃ y_ : List Int, y_ = (([((rd_T47 l0 x5_1).f0), 255] : List Int)) := ⟨_, rfl⟩
                        replace H : (if x4_3.length + y217.length < 140737488355328 then ((some (x4_3 ++ y217 : List Int)).bind fun y220 => (if 0 ≤ 255 then (if 255 ≤ (x7_3.size : Int) then (if y220.length + (x7_3.extract 0 255).size < 140737488355328 then (tenancyref13_Emit.l1 k3 l0 (y220 ++ bytesOf (x7_3.extract 0 255)) x5_1 (x7_3.extract 255 x7_3.size) ((rd_T47 l0 x5_1).f0) ((rd_T47 l0 x5_1).f1)) else (none)) else (none)) else (none))) else (none)) = some (r1, r2) := by first | (rw [hy217]; with_reducible exact H) | (have H2_ := (Option.bind_some _ _).symm.trans H; rw [hy217]; with_reducible exact H2_) | (have H2_ := (Option.bind_some _ _).symm.trans H; with_reducible exact H2_) | with_reducible exact H | (rw [hy217]; exact H) | exact H
                        have Ny217 := Aside0.mk hy217
                        clear hy217
                        by_cases c21 : x4_3.length + y217.length < 140737488355328
                        · rw [if_pos c21] at H
                          have LMc21 := Aside0.mk c21
                          clear c21
                          obtain ⟨y220, hy220⟩ : ∃ y_ : List Int, y_ = (x4_3 ++ y217) := ⟨_, rfl⟩
                          replace H : (if 0 ≤ 255 then (if 255 ≤ (x7_3.size : Int) then (if y220.length + (x7_3.extract 0 255).size < 140737488355328 then (tenancyref13_Emit.l1 k3 l0 (y220 ++ bytesOf (x7_3.extract 0 255)) x5_1 (x7_3.extract 255 x7_3.size) ((rd_T47 l0 x5_1).f0) ((rd_T47 l0 x5_1).f1)) else (none)) else (none)) else (none)) = some (r1, r2) := by first | (rw [hy220]; with_reducible exact H) | (have H2_ := (Option.bind_some _ _).symm.trans H; rw [hy220]; with_reducible exact H2_) | (have H2_ := (Option.bind_some _ _).symm.trans H; with_reducible exact H2_) | with_reducible exact H | (rw [hy220]; exact H) | exact H
                          have Ny220 := Aside0.mk hy220
                          clear hy220
                          by_cases c22 : 0 ≤ 255
                          · rw [if_pos c22] at H
                            have c22b0 := eq_true c22
                            have c22b1 : decide (0 ≤ 255) = true := decide_eq_true c22
                            clear c22
                            by_cases c23 : 255 ≤ (x7_3.size : Int)
                            · rw [if_pos c23] at H
                              have c23b0 := eq_true c23
                              have c23b1 : decide (255 ≤ (x7_3.size : Int)) = true := decide_eq_true c23
                              clear c23
                              by_cases c24 : y220.length + (x7_3.extract 0 255).size < 140737488355328
                              · rw [if_pos c24] at H
                                have LMc24 := Aside0.mk c24
                                clear c24
                                obtain ⟨y223, hy223⟩ : ∃ y_ : List Int, y_ = (y220 ++ bytesOf (x7_3.extract 0 255)) := ⟨_, rfl⟩
                                replace H : (tenancyref13_Emit.l1 k3 l0 y223 x5_1 (x7_3.extract 255 x7_3.size) ((rd_T47 l0 x5_1).f0) ((rd_T47 l0 x5_1).f1)) = some (r1, r2) := by first | (rw [hy223]; with_reducible exact H) | (have H2_ := (Option.bind_some _ _).symm.trans H; rw [hy223]; with_reducible exact H2_) | (have H2_ := (Option.bind_some _ _).symm.trans H; with_reducible exact H2_) | with_reducible exact H | (rw [hy223]; exact H) | exact H
                                have Ny223 := Aside0.mk hy223
                                clear hy223
                                have c25b0 := eq_true (of_decide_eq_true (by first | (with_reducible assumption) | assumption) : 255 ≤ (x7_3.size : Int))
                                have H' := Aside0.mk H
                                clear H
                                obtain ⟨hcz26_0, hcz26_1⟩ := XRun.bc2 BK215.out
                                obtain ⟨hfz26_0, hfz26_1⟩ := XRun.bf2 BK215.out
                                go_wp2_with (first | ((with_reducible refine gate_dst (N := 52) rfl ?_); (try (refine gate_guard (by rfl) ?_; dsimp only)); refine Kd.R_lit (Kd.int .u8) _ 5 ?hg (N := 52) ?hd (xs := ([((rd_T47 l0 x5_1).f0), 255] : List Int)) (inner := [.int .u8 ((rd_T47 l0 x5_1).f0), .int .u8 255]) (ok := fun _ => True) (okp := fun _ => True) ?hr ?hp (fun _ hk => hk) trivial (Below.refl _ _) (Nat.le_refl _) (by simp) ?_; (case hd => rfl); (case hg => rfl); (case hr => first | (go_simp; done) | (go_simp; rfl)); (case hp => exact (Reps.one (show Kd.M (Kd.int .u8) _ _ _ ((rd_T47 l0 x5_1).f0) [.int .u8 ((rd_T47 l0 x5_1).f0)] from rfl) (Reps.one (show Kd.M (Kd.int .u8) _ _ _ 255 [.int .u8 255] from rfl) (Reps.none _ _)))); intro v218 w27 ho28 hb hg_ hnew_; clear hg_ hnew_; (first | rw [← Ny217.out] at ho28 | (simp only [Int.reduceToNat] at ho28; rw [← Ny217.out] at ho28)); have n0_ := Aside0.mk (Kd.R_elder' (by (with_reducible repeat (first | apply Kd.R_alloc | apply Kd.R_drewN | apply Kd.R_drew)); exact HO_4.out) (Kd.R_base ho28) hb); have n1_ := Aside0.mk (Kd.R_lower (Kd.R_new' ho28 (Kd.R_lt (by (with_reducible repeat (first | apply Kd.R_alloc | apply Kd.R_drewN | apply Kd.R_drew)); exact HO_4.out))) (below_size (by repeat (first | (with_reducible first | exact HB.out | apply below_alloc | apply pw_below_drewN | apply below_drew1 | refine below_set ?_ GE215.out) | exact HB.out)))); have n2_ := Aside0.mk (blk_below (g := gb215) (o := .cells #[.int .u8 ((rd_T47 l0 x5_1).f0), .string ((rd_T47 l0 x5_1).f1)] 47 (0, 0)) (by (with_reducible repeat (first | refine blk_drewN ?_ _ | refine blk_drew ?_ | refine blk_alloc ?_ _)); exact BK215.out) hb); have n3_ := Aside0.mk (below_step (by repeat (first | (with_reducible first | exact HB.out | apply below_alloc | apply pw_below_drewN | apply below_drew1 | refine below_set ?_ GE215.out) | exact HB.out)) hb); clear HO_4; clear BK215; clear HB; have HO_4 := n0_; have HO219 := n1_; have BK215 := n2_; have HB := n3_; clear n0_ n1_ n2_ n3_; clear hb ho28; obtain ⟨Ao30, co30, eo30⟩ := Kd.R_slice HO219.out; subst eo30) | ((with_reducible refine gate_builtin (b := .append) (xs := #[.tmp 49, .tmp 52]) rfl ?_); (try (refine gate_guard (by rfl) ?_; dsimp only)); at_builtin; refine Kd.R_append_rows (Kd.int .u8) (w0 := w) w.heap.size rfl (.tmp 49) (.tmp 52) 39 5 (.int .u8 0) 1 rfl Try.underlying39 info5 rfl (by decide) (by omega) u4 x4_3 y217 _ _ _ (fun _ => True) (fun _ => False) rfl rfl ?aO ?aR (fun _ _ h => h) (fun _ h => h.elim) ?aF ?aB ?aS ?aL ?_; (case aR => repeat (first | exact (Kd.R_reads' HO219.out).2.2 | (with_reducible refine Kd.C_alloc ?_ _) | (with_reducible refine Kd.C_drewN ?_ _) | (with_reducible refine Kd.C_drew ?_))); (case aB => exact (by repeat (first | (with_reducible first | exact HB.out | apply below_alloc | apply pw_below_drewN | apply below_drew1 | refine below_set ?_ GE215.out) | exact HB.out))); (case aF => exact (fun _ _ => trivial)); (case aO => exact (by (with_reducible repeat (first | apply Kd.R_alloc | apply Kd.R_drewN | apply Kd.R_drew)); exact Kd.R_mono HO_4.out (fun _ hk => trivial))); (case aS => exact (below_size (by repeat (first | (with_reducible first | exact HB.out | apply below_alloc | apply pw_below_drewN | apply below_drew1 | refine below_set ?_ GE215.out) | exact HB.out)))); (case aL => have := LMc21.out; omega); intro v221 w29 ho hb hg hat; rw [← Ny220.out] at ho; have n0_ := Aside0.mk (blk_grown (g := gb215) (o := .cells #[.int .u8 ((rd_T47 l0 x5_1).f0), .string ((rd_T47 l0 x5_1).f1)] 47 (0, 0)) (by (with_reducible repeat (first | refine blk_drewN ?_ _ | refine blk_drew ?_ | refine blk_alloc ?_ _)); exact BK215.out) hg (Kd.R_ne HO_4.out BK215.out (by decide))); have n1_ := Aside0.mk (hb); have n2_ := Aside0.mk (ho); clear BK215; clear HB; clear HO_4; clear HO219; have BK215 := n0_; have HB := n1_; have HO222 := n2_; clear n0_ n1_ n2_; clear ho hb hg hat) | (at_builtin; refine print_append_str (w0 := w) w.heap.size rfl (.tmp 54) _ 39 9 5 rfl Try.underlying39 Try.underlying9 info5 v221 y220 (x7_3.extract 0 255) rfl rfl ?aO ?aB ?aS ?aL ?_; (case aB => exact (by repeat (first | (with_reducible first | exact HB.out | apply below_alloc | apply pw_below_drewN | apply below_drew1 | refine below_set ?_ GE215.out) | exact HB.out))); (case aO => exact (Kd.own_of_R (by (with_reducible repeat (first | apply Kd.R_alloc | apply Kd.R_drewN | apply Kd.R_drew)); exact HO222.out))); (case aS => exact (below_size (by repeat (first | (with_reducible first | exact HB.out | apply below_alloc | apply pw_below_drewN | apply below_drew1 | refine below_set ?_ GE215.out) | exact HB.out)))); (case aL => have := LMc24.out; omega); intro v224 w31 ho0 hb hg; have ho := Kd.R_of_own (h1 := fun _ => rfl) (ok := fun _ => True) ho0 (fun _ _ => trivial); clear ho0; have hat := True.intro; rw [← Ny223.out] at ho; change Kd.R (Kd.int .u8) 5 w31 w.heap.size (fun _ => True) v224 y223 at ho; have n0_ := Aside0.mk (blk_grown (g := gb215) (o := .cells #[.int .u8 ((rd_T47 l0 x5_1).f0), .string ((rd_T47 l0 x5_1).f1)] 47 (0, 0)) (by (with_reducible repeat (first | refine blk_drewN ?_ _ | refine blk_drew ?_ | refine blk_alloc ?_ _)); exact BK215.out) hg (Kd.R_ne HO222.out BK215.out (by decide))); have n1_ := Aside0.mk (hb); have n2_ := Aside0.mk (ho); clear BK215; clear HB; clear HO222; have BK215 := n0_; have HB := n1_; have HO225 := n2_; clear n0_ n1_ n2_; clear ho hb hg hat))
                                go_roundg k3
                                case measure => have := HK1.out; have := HJ6.out; have := HK3.out; omega
                                case rel => exact ⟨(y223), (x7_3.extract 255 x7_3.size), (by first | rfl | (simp; done) | (simp only [ByteArray.size_extract]; rw [Nat.min_eq_left (by omega)]; done) | (simp [*]; done)), H', ⟨by have := HK1.out; have := HJ6.out; have := HK3.out; omega⟩, ⟨by (with_reducible repeat (first | apply Kd.R_alloc | apply Kd.R_drewN | apply Kd.R_drew)); exact HO225.out⟩, ⟨by (with_reducible repeat (first | refine blk_drewN ?_ _ | refine blk_drew ?_ | refine blk_alloc ?_ _)); exact BK215.out⟩, ⟨by repeat (first | (with_reducible first | exact HB.out | apply below_alloc | apply pw_below_drewN | apply below_drew1 | refine below_set ?_ GE215.out) | exact HB.out)⟩⟩
                              · rw [if_neg c24] at H
                                exact absurd H (by simp)
                            · rw [if_neg c23] at H
                              exact absurd H (by simp)
                          · rw [if_neg c22] at H
                            exact absurd H (by simp)
                        · rw [if_neg c21] at H
                          exact absurd H (by simp)
                      · rw [if_neg c20] at H
                        have c20b0 : decide (255 < (x7_3.size : Int)) = false := decide_eq_false c20
                        have c20b1 : decide (255 < x7_3.size) = false := decide_eq_false (by omega)
                        clear c20
                        obtain ⟨y226, hy226⟩ : ∃ y_ : List Int, y_ = (([((rd_T47 l0 x5_1).f0), ((x7_3.size : Int)) % 256] : List Int)) := ⟨_, rfl⟩
                        replace H : (if x4_3.length + y226.length < 140737488355328 then ((some (x4_3 ++ y226 : List Int)).bind fun y229 => (if y229.length + x7_3.size < 140737488355328 then (tenancyref13_Emit.l0 k3 l0 (y229 ++ bytesOf x7_3) (wrap64 (x5_1 + 1))) else (none))) else (none)) = some (r1, r2) := by first | (rw [hy226]; with_reducible exact H) | (have H2_ := (Option.bind_some _ _).symm.trans H; rw [hy226]; with_reducible exact H2_) | (have H2_ := (Option.bind_some _ _).symm.trans H; with_reducible exact H2_) | with_reducible exact H | (rw [hy226]; exact H) | exact H
                        have Ny226 := Aside0.mk hy226
                        clear hy226
                        by_cases c32 : x4_3.length + y226.length < 140737488355328
                        · rw [if_pos c32] at H
                          have LMc32 := Aside0.mk c32
                          clear c32
                          obtain ⟨y229, hy229⟩ : ∃ y_ : List Int, y_ = (x4_3 ++ y226) := ⟨_, rfl⟩
                          replace H : (if y229.length + x7_3.size < 140737488355328 then (tenancyref13_Emit.l0 k3 l0 (y229 ++ bytesOf x7_3) (wrap64 (x5_1 + 1))) else (none)) = some (r1, r2) := by first | (rw [hy229]; with_reducible exact H) | (have H2_ := (Option.bind_some _ _).symm.trans H; rw [hy229]; with_reducible exact H2_) | (have H2_ := (Option.bind_some _ _).symm.trans H; with_reducible exact H2_) | with_reducible exact H | (rw [hy229]; exact H) | exact H
                          have Ny229 := Aside0.mk hy229
                          clear hy229
                          by_cases c33 : y229.length + x7_3.size < 140737488355328
                          · rw [if_pos c33] at H
                            have LMc33 := Aside0.mk c33
                            clear c33
                            obtain ⟨y232, hy232⟩ : ∃ y_ : List Int, y_ = (y229 ++ bytesOf x7_3) := ⟨_, rfl⟩
                            replace H : (tenancyref13_Emit.l0 k3 l0 y232 (wrap64 (x5_1 + 1))) = some (r1, r2) := by first | (rw [hy232]; with_reducible exact H) | (have H2_ := (Option.bind_some _ _).symm.trans H; rw [hy232]; with_reducible exact H2_) | (have H2_ := (Option.bind_some _ _).symm.trans H; with_reducible exact H2_) | with_reducible exact H | (rw [hy232]; exact H) | exact H
                            have Ny232 := Aside0.mk hy232
                            clear hy232
                            have H' := Aside0.mk H
                            clear H
                            obtain ⟨hcz34_0, hcz34_1⟩ := XRun.bc2 BK215.out
                            obtain ⟨hfz34_0, hfz34_1⟩ := XRun.bf2 BK215.out
                            go_wp2_with (first | ((with_reducible refine gate_dst (N := 66) rfl ?_); (try (refine gate_guard (by rfl) ?_; dsimp only)); refine Kd.R_lit (Kd.int .u8) _ 5 ?hg (N := 66) ?hd (xs := ([((rd_T47 l0 x5_1).f0), ((x7_3.size : Int)) % 256] : List Int)) (inner := [.int .u8 ((rd_T47 l0 x5_1).f0), .int .u8 (((x7_3.size : Int)) % 256)]) (ok := fun _ => True) (okp := fun _ => True) ?hr ?hp (fun _ hk => hk) trivial (Below.refl _ _) (Nat.le_refl _) (by simp) ?_; (case hd => rfl); (case hg => rfl); (case hr => first | (go_simp; done) | (go_simp; rfl)); (case hp => exact (Reps.one (show Kd.M (Kd.int .u8) _ _ _ ((rd_T47 l0 x5_1).f0) [.int .u8 ((rd_T47 l0 x5_1).f0)] from rfl) (Reps.one (show Kd.M (Kd.int .u8) _ _ _ (((x7_3.size : Int)) % 256) [.int .u8 (((x7_3.size : Int)) % 256)] from rfl) (Reps.none _ _)))); intro v227 w35 ho36 hb hg_ hnew_; clear hg_ hnew_; (first | rw [← Ny226.out] at ho36 | (simp only [Int.reduceToNat] at ho36; rw [← Ny226.out] at ho36)); have n0_ := Aside0.mk (Kd.R_elder' (by (with_reducible repeat (first | apply Kd.R_alloc | apply Kd.R_drewN | apply Kd.R_drew)); exact HO_4.out) (Kd.R_base ho36) hb); have n1_ := Aside0.mk (Kd.R_lower (Kd.R_new' ho36 (Kd.R_lt (by (with_reducible repeat (first | apply Kd.R_alloc | apply Kd.R_drewN | apply Kd.R_drew)); exact HO_4.out))) (below_size (by repeat (first | (with_reducible first | exact HB.out | apply below_alloc | apply pw_below_drewN | apply below_drew1 | refine below_set ?_ GE215.out) | exact HB.out)))); have n2_ := Aside0.mk (blk_below (g := gb215) (o := .cells #[.int .u8 ((rd_T47 l0 x5_1).f0), .string ((rd_T47 l0 x5_1).f1)] 47 (0, 0)) (by (with_reducible repeat (first | refine blk_drewN ?_ _ | refine blk_drew ?_ | refine blk_alloc ?_ _)); exact BK215.out) hb); have n3_ := Aside0.mk (below_step (by repeat (first | (with_reducible first | exact HB.out | apply below_alloc | apply pw_below_drewN | apply below_drew1 | refine below_set ?_ GE215.out) | exact HB.out)) hb); clear HO_4; clear BK215; clear HB; have HO_4 := n0_; have HO228 := n1_; have BK215 := n2_; have HB := n3_; clear n0_ n1_ n2_ n3_; clear hb ho36; obtain ⟨Ao38, co38, eo38⟩ := Kd.R_slice HO228.out; subst eo38) | ((with_reducible refine gate_builtin (b := .append) (xs := #[.tmp 60, .tmp 66]) rfl ?_); (try (refine gate_guard (by rfl) ?_; dsimp only)); at_builtin; refine Kd.R_append_rows (Kd.int .u8) (w0 := w) w.heap.size rfl (.tmp 60) (.tmp 66) 39 5 (.int .u8 0) 1 rfl Try.underlying39 info5 rfl (by decide) (by omega) u4 x4_3 y226 _ _ _ (fun _ => True) (fun _ => False) rfl rfl ?aO ?aR (fun _ _ h => h) (fun _ h => h.elim) ?aF ?aB ?aS ?aL ?_; (case aR => repeat (first | exact (Kd.R_reads' HO228.out).2.2 | (with_reducible refine Kd.C_alloc ?_ _) | (with_reducible refine Kd.C_drewN ?_ _) | (with_reducible refine Kd.C_drew ?_))); (case aB => exact (by repeat (first | (with_reducible first | exact HB.out | apply below_alloc | apply pw_below_drewN | apply below_drew1 | refine below_set ?_ GE215.out) | exact HB.out))); (case aF => exact (fun _ _ => trivial)); (case aO => exact (by (with_reducible repeat (first | apply Kd.R_alloc | apply Kd.R_drewN | apply Kd.R_drew)); exact Kd.R_mono HO_4.out (fun _ hk => trivial))); (case aS => exact (below_size (by repeat (first | (with_reducible first | exact HB.out | apply below_alloc | apply pw_below_drewN | apply below_drew1 | refine below_set ?_ GE215.out) | exact HB.out)))); (case aL => have := LMc32.out; omega); intro v230 w37 ho hb hg hat; rw [← Ny229.out] at ho; have n0_ := Aside0.mk (blk_grown (g := gb215) (o := .cells #[.int .u8 ((rd_T47 l0 x5_1).f0), .string ((rd_T47 l0 x5_1).f1)] 47 (0, 0)) (by (with_reducible repeat (first | refine blk_drewN ?_ _ | refine blk_drew ?_ | refine blk_alloc ?_ _)); exact BK215.out) hg (Kd.R_ne HO_4.out BK215.out (by decide))); have n1_ := Aside0.mk (hb); have n2_ := Aside0.mk (ho); clear BK215; clear HB; clear HO_4; clear HO228; have BK215 := n0_; have HB := n1_; have HO231 := n2_; clear n0_ n1_ n2_; clear ho hb hg hat) | (at_builtin; refine print_append_str (w0 := w) w.heap.size rfl (.tmp 68) _ 39 9 5 rfl Try.underlying39 Try.underlying9 info5 v230 y229 x7_3 rfl rfl ?aO ?aB ?aS ?aL ?_; (case aB => exact (by repeat (first | (with_reducible first | exact HB.out | apply below_alloc | apply pw_below_drewN | apply below_drew1 | refine below_set ?_ GE215.out) | exact HB.out))); (case aO => exact (Kd.own_of_R (by (with_reducible repeat (first | apply Kd.R_alloc | apply Kd.R_drewN | apply Kd.R_drew)); exact HO231.out))); (case aS => exact (below_size (by repeat (first | (with_reducible first | exact HB.out | apply below_alloc | apply pw_below_drewN | apply below_drew1 | refine below_set ?_ GE215.out) | exact HB.out)))); (case aL => have := LMc33.out; omega); intro v233 w39 ho0 hb hg; have ho := Kd.R_of_own (h1 := fun _ => rfl) (ok := fun _ => True) ho0 (fun _ _ => trivial); clear ho0; have hat := True.intro; rw [← Ny232.out] at ho; change Kd.R (Kd.int .u8) 5 w39 w.heap.size (fun _ => True) v233 y232 at ho; have n0_ := Aside0.mk (blk_grown (g := gb215) (o := .cells #[.int .u8 ((rd_T47 l0 x5_1).f0), .string ((rd_T47 l0 x5_1).f1)] 47 (0, 0)) (by (with_reducible repeat (first | refine blk_drewN ?_ _ | refine blk_drew ?_ | refine blk_alloc ?_ _)); exact BK215.out) hg (Kd.R_ne HO231.out BK215.out (by decide))); have n1_ := Aside0.mk (hb); have n2_ := Aside0.mk (ho); clear BK215; clear HB; clear HO231; have BK215 := n0_; have HB := n1_; have HO234 := n2_; clear n0_ n1_ n2_; clear ho hb hg hat))
                            go_roundg k3
                            case measure => have := HK1.out; have := HJ6.out; have := HK3.out; omega
                            case rel => exact ⟨(y232), (wrap64 (x5_1 + 1)), (by first | rfl | (simp; done) | (simp only [ByteArray.size_extract]; rw [Nat.min_eq_left (by omega)]; done) | (simp [*]; done)), H', ⟨by have := HK1.out; have := HJ6.out; have := HK3.out; omega⟩, ⟨by (with_reducible repeat (first | apply Kd.R_alloc | apply Kd.R_drewN | apply Kd.R_drew)); exact HO234.out⟩, ⟨by repeat (first | (with_reducible first | exact HB.out | apply below_alloc | apply pw_below_drewN | apply below_drew1 | refine below_set ?_ GE215.out) | exact HB.out)⟩⟩
                          · rw [if_neg c33] at H
                            exact absurd H (by simp)
                        · rw [if_neg c32] at H
                          exact absurd H (by simp)
          · rw [if_neg c6] at H
            exact absurd H (by simp)
        · rw [if_neg c5] at H
          have c5b0 : decide (x5_1 < (l0.length : Int)) = false := decide_eq_false c5
          clear c5
          by_cases c40 : x4_1.length < 140737488355328
          · rw [if_pos c40] at H
            have LMc40 := Aside0.mk c40
            clear c40
            obtain ⟨y211, hy211⟩ : ∃ y_ : List Int, y_ = (x4_1 ++ [255]) := ⟨_, rfl⟩
            replace H : (some (strOfNums y211, 0)) = some (r1, r2) := by first | (rw [hy211]; with_reducible exact H) | (have H2_ := (Option.bind_some _ _).symm.trans H; rw [hy211]; with_reducible exact H2_) | (have H2_ := (Option.bind_some _ _).symm.trans H; with_reducible exact H2_) | with_reducible exact H | (rw [hy211]; exact H) | exact H
            have Ny211 := Aside0.mk hy211
            clear hy211
            simp only [Option.some.injEq, Prod.mk.injEq] at H
            obtain ⟨rfl, rfl⟩ := H
            go_wp2_with (first | ((with_reducible refine gate_builtin (b := .append) (xs := #[.tmp 71, .tmp 72]) rfl ?_); (try (refine gate_guard (by rfl) ?_; dsimp only)); at_builtin; refine Kd.R_append (Kd.int .u8) (w0 := w) w.heap.size rfl (.tmp 71) (.tmp 72) 39 5 (.int .u8 0) 1 rfl Try.underlying39 info5 rfl (by decide) (by omega) u4 x4_1 255 [.int .u8 255] (fun _ => True) (fun _ => False) rfl rfl ?aP (fun _ hk => hk.elim) ?aF ?aO ?aB ?aS ?aL ?_; (case aP => exact rfl); (case aB => exact (by repeat (first | (with_reducible first | exact HB.out | apply below_alloc | apply pw_below_drewN | apply below_drew1) | exact HB.out))); (case aF => exact (fun _ _ => trivial)); (case aO => exact (by (with_reducible repeat (first | apply Kd.R_alloc | apply Kd.R_drewN | apply Kd.R_drew)); exact HO_4.out)); (case aS => exact (below_size (by repeat (first | (with_reducible first | exact HB.out | apply below_alloc | apply pw_below_drewN | apply below_drew1) | exact HB.out)))); (case aL => have := LMc40.out; omega); intro v212 w41 ho hb hg hat; rw [← Ny211.out] at ho; have n0_ := Aside0.mk (hb); have n1_ := Aside0.mk (ho); clear HB; clear HO_4; have HB := n0_; have HO213 := n1_; clear n0_ n1_; clear ho hb hg hat; have hcv42 := own_string (P := Try.prog) Try.underlying39 Try.underlying5 Try.underlying9 (Kd.own_of_R HO213.out)))
            go_ret2
            exact ⟨by first | rfl | (simp [errW_none, errW_some] <;> rfl) | (simp [*, errW_none, errW_some] <;> rfl), by repeat (first | (with_reducible first | exact HB.out | apply below_alloc | apply pw_below_drewN | apply below_drew1) | exact HB.out)⟩
          · rw [if_neg c40] at H
            exact absurd H (by simp)

/-! ### tenancyref13_Find: function 33 -/
def tenancyref13_Find.f (k : Nat) (l0 : List (S47)) (a1 : Int) : Option (ByteArray × Bool) := (tenancyref13_place.f k l0 a1).bind fun t235 => (if t235 < 0 then (some ((⟨#[]⟩ : ByteArray), false)) else (if 0 ≤ t235 then (if t235 < (l0.length : Int) then (some ((rd_T47 l0 t235).f1, true)) else (none)) else (none)))
theorem tenancyref13_Find.mono : ∀ a0 a1 k, LeO (tenancyref13_Find.f k a0 a1) (tenancyref13_Find.f (k + 1) a0 a1) := by
  intro a0 a1 k
  unfold tenancyref13_Find.f
  repeat' first
      | (with_reducible exact tenancyref13_place.mono _ _ _)
      | (with_reducible exact LeO.refl _)
      | (with_reducible exact LeO.none _)
      | (with_reducible refine LeO.ite ?_ ?_)
      | (with_reducible refine LeO.bind ?_ (fun _ => ?_))
      | exact tenancyref13_place.mono _ _ _
      | exact LeO.none _
      | refine LeO.ite ?_ ?_
      | refine LeO.bind ?_ (fun _ => ?_)
set_option maxHeartbeats 8000000 in
set_option maxRecDepth 100000 in
theorem tenancyref13_Find.calls (k : Nat) (A0 : Option Addr) (c0 : Nat) (l0 : List (S47)) (a1 : Int) (r1 : ByteArray) (r2 : Bool) (w : World) (hr0 : Kd.C k47 w A0 l0.length l0) (hc0 : l0.length ≤ c0) (h : tenancyref13_Find.f k l0 a1 = some (r1, r2)) :
    Calls Try.prog 33 #[.slice A0 l0.length c0, .int .u8 a1] w fun e w' => e = .returned (.tuple #[.string r1, .bool r2]) ∧ Drawn0 w w' := by
  have HR0 := Aside0.mk hr0
  have HC0 := Aside0.mk hc0
  clear hr0 hc0
  have H : ((tenancyref13_place.f k l0 a1).bind fun t235 => (if t235 < 0 then (some ((⟨#[]⟩ : ByteArray), false)) else (if 0 ≤ t235 then (if t235 < (l0.length : Int) then (some ((rd_T47 l0 t235).f1, true)) else (none)) else (none)))) = some (r1, r2) := h
  clear h
  replace H := Option.bind_eq_some_iff.mp H
  obtain ⟨t235, A30, H⟩ := H
  replace H : (if t235 < 0 then (some ((⟨#[]⟩ : ByteArray), false)) else (if 0 ≤ t235 then (if t235 < (l0.length : Int) then (some ((rd_T47 l0 t235).f1, true)) else (none)) else (none))) = some (r1, r2) := H
  have A3 := Aside0.mk A30
  clear A30
  by_cases c4 : t235 < 0
  · rw [if_pos c4] at H
    have c4b0 : decide (t235 < 0) = true := decide_eq_true c4
    clear c4
    simp only [Option.some.injEq, Prod.mk.injEq] at H
    obtain ⟨rfl, rfl⟩ := H
    go_enter Try.func33, Try.ntmps33
    go_wp2_with (first | ((with_reducible refine gate_callee (f := 49) rfl ?_); refine goesL_ (some 9) rfl rfl Try.func49 (by kernel_rfl) rfl #[.slice A0 l0.length c0, .int .u8 a1] rfl (by (try simp only [List.map_toArray, List.map_cons, List.map_nil]); first | done | rfl | (simp only [List.length_drop, List.length_take]; rfl)) ?_; (with_reducible refine (tenancyref13_place.calls k _ _ l0 a1 t235 _ ?side1 ?side2 A3.out).mono ?_); (case side1 => repeat (first | exact HR0.out | (with_reducible refine Kd.C_alloc ?_ _) | (with_reducible refine Kd.C_drewN ?_ _) | (with_reducible refine Kd.C_drew ?_))); (case side2 => exact HC0.out); rintro e w' ⟨rfl, ⟨nd, rfl⟩⟩; refine ⟨_, rfl, ?_⟩))
    go_ret2
    exact ⟨by first | rfl | (simp; done) | (simp [*]; done), by repeat (first | exact Drawn0.refl _ | apply Drawn0.step)⟩
  · rw [if_neg c4] at H
    have c4b0 : decide (t235 < 0) = false := decide_eq_false c4
    clear c4
    by_cases c5 : 0 ≤ t235
    · rw [if_pos c5] at H
      have c5b0 : decide (0 ≤ t235) = true := decide_eq_true c5
      clear c5
      by_cases c6 : t235 < (l0.length : Int)
      · rw [if_pos c6] at H
        have c6b0 : decide (t235 < (l0.length : Int)) = true := decide_eq_true c6
        clear c6
        simp only [Option.some.injEq, Prod.mk.injEq] at H
        obtain ⟨rfl, rfl⟩ := H
        go_enter Try.func33, Try.ntmps33
        go_wp2_with (first | ((with_reducible refine gate_callee (f := 49) rfl ?_); refine goesL_ (some 9) rfl rfl Try.func49 (by kernel_rfl) rfl #[.slice A0 l0.length c0, .int .u8 a1] rfl (by (try simp only [List.map_toArray, List.map_cons, List.map_nil]); first | done | rfl | (simp only [List.length_drop, List.length_take]; rfl)) ?_; (with_reducible refine (tenancyref13_place.calls k _ _ l0 a1 t235 _ ?side1 ?side2 A3.out).mono ?_); (case side1 => repeat (first | exact HR0.out | (with_reducible refine Kd.C_alloc ?_ _) | (with_reducible refine Kd.C_drewN ?_ _) | (with_reducible refine Kd.C_drew ?_))); (case side2 => exact HC0.out); rintro e w' ⟨rfl, ⟨nd, rfl⟩⟩; refine ⟨_, rfl, ?_⟩; have p236 : 0 ≤ (t235 : Int) := of_decide_eq_true (by first | (with_reducible assumption) | assumption); have q236 : t235 < (l0.length : Int) := of_decide_eq_true (by first | (with_reducible assumption) | assumption); obtain ⟨ad236, e236, hx236_0, hx236_1⟩ := at_T47 HR0.out t235 p236 q236; cases e236; replace p236 := eq_true p236; replace q236 := eq_true q236))
        go_ret2
        exact ⟨by first | rfl | (simp; done) | (simp [*]; done), by repeat (first | exact Drawn0.refl _ | apply Drawn0.step)⟩
      · rw [if_neg c6] at H
        exact absurd H (by simp)
    · rw [if_neg c5] at H
      exact absurd H (by simp)

/-! ### tenancyref14_Sound: function 15 -/
def tenancyref14_Sound.f (k : Nat) (a0_0 : Int) (a0_1 : Int) (a0_2 : Int) (a0_3 : Int) (a0_4 : Int) (a0_5 : Int) (a0_6 : Int) (a0_7 : Int) (a0_8 : Int) (a0_9 : Int) (a0_10 : Int) (a0_11 : ByteArray) (a0_12 : ByteArray) (a0_13 : ByteArray) (l0_14 : List (S47)) : Option (Bool) := (tenancyref13_Emit.f k l0_14).bind fun bt238 => ((tenancyref13_Find.f k l0_14 52).bind fun bt240 => (if (a0_11.size : Int) = 16 then (if (a0_12.size : Int) = 64 then (if (a0_13.size : Int) = 128 then (if bt238.2 = 0 then (some (!bt240.2)) else (some false)) else (some false)) else (some false)) else (some false)))
theorem tenancyref14_Sound.mono : ∀ a0 a1 a2 a3 a4 a5 a6 a7 a8 a9 a10 a11 a12 a13 a14 k, LeO (tenancyref14_Sound.f k a0 a1 a2 a3 a4 a5 a6 a7 a8 a9 a10 a11 a12 a13 a14) (tenancyref14_Sound.f (k + 1) a0 a1 a2 a3 a4 a5 a6 a7 a8 a9 a10 a11 a12 a13 a14) := by
  intro a0 a1 a2 a3 a4 a5 a6 a7 a8 a9 a10 a11 a12 a13 a14 k
  unfold tenancyref14_Sound.f
  repeat' first
      | (with_reducible exact tenancyref13_Emit.mono _ _)
      | (with_reducible exact tenancyref13_Find.mono _ _ _)
      | (with_reducible exact LeO.refl _)
      | (with_reducible exact LeO.none _)
      | (with_reducible refine LeO.ite ?_ ?_)
      | (with_reducible refine LeO.bind ?_ (fun _ => ?_))
      | exact tenancyref13_Emit.mono _ _
      | exact tenancyref13_Find.mono _ _ _
      | exact LeO.none _
      | refine LeO.ite ?_ ?_
      | refine LeO.bind ?_ (fun _ => ?_)
set_option maxHeartbeats 8000000 in
set_option maxRecDepth 100000 in
theorem tenancyref14_Sound.calls (k : Nat) (a0_0 : Int) (a0_1 : Int) (a0_2 : Int) (a0_3 : Int) (a0_4 : Int) (a0_5 : Int) (a0_6 : Int) (a0_7 : Int) (a0_8 : Int) (a0_9 : Int) (a0_10 : Int) (a0_11 : ByteArray) (a0_12 : ByteArray) (a0_13 : ByteArray) (A0_14 : Option Addr) (c0_14 : Nat) (l0_14 : List (S47)) (r : Bool) (w : World) (hr0_14 : Kd.C k47 w A0_14 l0_14.length l0_14) (hc0_14 : l0_14.length ≤ c0_14) (h : tenancyref14_Sound.f k a0_0 a0_1 a0_2 a0_3 a0_4 a0_5 a0_6 a0_7 a0_8 a0_9 a0_10 a0_11 a0_12 a0_13 l0_14 = some r) :
    Calls Try.prog 15 #[.agg #[.int .u8 a0_0, .int .u8 a0_1, .int .u8 a0_2, .int .u8 a0_3, .int .u32 a0_4, .int .u16 a0_5, .int .u16 a0_6, .int .u32 a0_7, .int .u32 a0_8, .int .u32 a0_9, .int .u32 a0_10, .string a0_11, .string a0_12, .string a0_13, .slice A0_14 l0_14.length c0_14]] w fun e w' => e = .returned (.bool r) ∧ Below w.heap.size w w' := by
  have hu26 := Try.underlying26
  have HR0_14 := Aside0.mk hr0_14
  have HC0_14 := Aside0.mk hc0_14
  clear hr0_14 hc0_14
  have HB := Aside0.mk (Below.refl w.heap.size w)
  have H : ((tenancyref13_Emit.f k l0_14).bind fun bt238 => ((tenancyref13_Find.f k l0_14 52).bind fun bt240 => (if (a0_11.size : Int) = 16 then (if (a0_12.size : Int) = 64 then (if (a0_13.size : Int) = 128 then (if bt238.2 = 0 then (some (!bt240.2)) else (some false)) else (some false)) else (some false)) else (some false)))) = some r := h
  clear h
  replace H := Option.bind_eq_some_iff.mp H
  obtain ⟨⟨t238, t239⟩, A20, H⟩ := H
  replace H : ((tenancyref13_Find.f k l0_14 52).bind fun bt240 => (if (a0_11.size : Int) = 16 then (if (a0_12.size : Int) = 64 then (if (a0_13.size : Int) = 128 then (if t239 = 0 then (some (!bt240.2)) else (some false)) else (some false)) else (some false)) else (some false))) = some r := H
  have A2 := Aside0.mk A20
  clear A20
  replace H := Option.bind_eq_some_iff.mp H
  obtain ⟨⟨t240, t241⟩, A30, H⟩ := H
  replace H : (if (a0_11.size : Int) = 16 then (if (a0_12.size : Int) = 64 then (if (a0_13.size : Int) = 128 then (if t239 = 0 then (some (!t241)) else (some false)) else (some false)) else (some false)) else (some false)) = some r := H
  have A3 := Aside0.mk A30
  clear A30
  by_cases c4 : (a0_11.size : Int) = 16
  · rw [if_pos c4] at H
    have c4b0 : ((a0_11.size : Int) == 16) = true := beq_iff_eq.mpr c4
    have c4b1 : ((a0_11.size : Int) != 16) = false := bne_eq_false_iff_eq.mpr c4
    clear c4
    by_cases c5 : (a0_12.size : Int) = 64
    · rw [if_pos c5] at H
      have c5b0 : ((a0_12.size : Int) == 64) = true := beq_iff_eq.mpr c5
      have c5b1 : ((a0_12.size : Int) != 64) = false := bne_eq_false_iff_eq.mpr c5
      clear c5
      by_cases c6 : (a0_13.size : Int) = 128
      · rw [if_pos c6] at H
        have c6b0 : ((a0_13.size : Int) == 128) = true := beq_iff_eq.mpr c6
        have c6b1 : ((a0_13.size : Int) != 128) = false := bne_eq_false_iff_eq.mpr c6
        clear c6
        by_cases c7 : t239 = 0
        · rw [if_pos c7] at H
          have c7b0 : (t239 == 0) = true := beq_iff_eq.mpr c7
          have c7b1 : (t239 != 0) = false := bne_eq_false_iff_eq.mpr c7
          clear c7
          obtain rfl := Option.some.inj H
          go_enter Try.func15, Try.ntmps15
          go_wp2_with (first | ((with_reducible refine gate_dst (N := 1) rfl ?_); (try (refine gate_guard (by rfl) ?_; dsimp only)); refine box_event ?hg (N := 1) ?hd (cs := #[.int .u8 a0_0, .int .u8 a0_1, .int .u8 a0_2, .int .u8 a0_3, .int .u32 a0_4, .int .u16 a0_5, .int .u16 a0_6, .int .u32 a0_7, .int .u32 a0_8, .int .u32 a0_9, .int .u32 a0_10, .string a0_11, .string a0_12, .string a0_13, .slice A0_14 l0_14.length c0_14]) (t := 26) ?hr ?_; (case hd => rfl); (case hg => rfl); (case hr => first | (go_simp; done) | (go_simp; rfl)); intro gb237 hg w8 hbox hb; have n0_ := Aside0.mk (below_step (by repeat (first | (with_reducible first | exact HB.out | apply below_alloc | apply pw_below_drewN | apply below_drew1) | exact HB.out)) hb); have n1_ := Aside0.mk (hbox); have n2_ := Aside0.mk ((by rw [hg]; exact (below_size (by repeat (first | (with_reducible first | exact HB.out | apply below_alloc | apply pw_below_drewN | apply below_drew1) | exact HB.out))) : w.heap.size ≤ gb237)); have n3_ := Aside0.mk ((by rw [hg]; exact (below_size (by repeat (first | (with_reducible first | exact HB.out | apply below_alloc | apply pw_below_drewN | apply below_drew1) | exact HB.out))) : w.heap.size ≤ gb237)); clear HB; have HB := n0_; have BK237 := n1_; have GW237 := n2_; have GE237 := n3_; clear n0_ n1_ n2_ n3_; clear hb hbox hg; obtain ⟨hcz9_0, hcz9_1, hcz9_2, hcz9_3, hcz9_4, hcz9_5, hcz9_6, hcz9_7, hcz9_8, hcz9_9, hcz9_10, hcz9_11, hcz9_12, hcz9_13, hcz9_14⟩ := XRun.bc15 BK237.out; obtain ⟨hfz9_0, hfz9_1, hfz9_2, hfz9_3, hfz9_4, hfz9_5, hfz9_6, hfz9_7, hfz9_8, hfz9_9, hfz9_10, hfz9_11, hfz9_12, hfz9_13, hfz9_14⟩ := XRun.bf15 BK237.out) | ((with_reducible refine gate_callee (f := 29) rfl ?_); refine goesL_ (some 10) rfl rfl Try.func29 (by kernel_rfl) rfl #[.slice A0_14 l0_14.length c0_14] rfl (by (try simp only [List.map_toArray, List.map_cons, List.map_nil]); first | done | rfl | (simp only [List.length_drop, List.length_take]; rfl)) ?_; (with_reducible refine (tenancyref13_Emit.calls k _ _ l0_14 t238 t239 _ ?side1 ?side2 A2.out).mono ?_); (case side1 => repeat (first | exact (Kd.C_below HR0_14.out HB.out) | (with_reducible refine Kd.C_alloc ?_ _) | (with_reducible refine Kd.C_drewN ?_ _) | (with_reducible refine Kd.C_drew ?_))); (case side2 => exact HC0_14.out); rintro e w10 ⟨rfl, hb⟩; refine ⟨_, rfl, ?_⟩; have n0_ := Aside0.mk (blk_below (g := gb237) (o := .cells #[.int .u8 a0_0, .int .u8 a0_1, .int .u8 a0_2, .int .u8 a0_3, .int .u32 a0_4, .int .u16 a0_5, .int .u16 a0_6, .int .u32 a0_7, .int .u32 a0_8, .int .u32 a0_9, .int .u32 a0_10, .string a0_11, .string a0_12, .string a0_13, .slice A0_14 l0_14.length c0_14] 26 (0, 0)) (by (with_reducible repeat (first | refine blk_drewN ?_ _ | refine blk_drew ?_ | refine blk_alloc ?_ _)); exact BK237.out) hb); have n1_ := Aside0.mk (below_step (by repeat (first | (with_reducible first | exact HB.out | apply below_alloc | apply pw_below_drewN | apply below_drew1 | refine below_set ?_ GE237.out) | exact HB.out)) hb); clear BK237; clear HB; have BK237 := n0_; have HB := n1_; clear n0_ n1_; (try clear hb); (try clear hb2); (try clear hk); (try clear hi); obtain ⟨hcz11_0, hcz11_1, hcz11_2, hcz11_3, hcz11_4, hcz11_5, hcz11_6, hcz11_7, hcz11_8, hcz11_9, hcz11_10, hcz11_11, hcz11_12, hcz11_13, hcz11_14⟩ := XRun.bc15 BK237.out; obtain ⟨hfz11_0, hfz11_1, hfz11_2, hfz11_3, hfz11_4, hfz11_5, hfz11_6, hfz11_7, hfz11_8, hfz11_9, hfz11_10, hfz11_11, hfz11_12, hfz11_13, hfz11_14⟩ := XRun.bf15 BK237.out) | ((with_reducible refine gate_callee (f := 33) rfl ?_); refine goesL_ (some 16) rfl rfl Try.func33 (by kernel_rfl) rfl #[.slice A0_14 l0_14.length c0_14, .int .u8 52] rfl (by (try simp only [List.map_toArray, List.map_cons, List.map_nil]); first | done | rfl | (simp only [List.length_drop, List.length_take]; rfl)) ?_; (with_reducible refine (tenancyref13_Find.calls k _ _ l0_14 52 t240 t241 _ ?side1 ?side2 A3.out).mono ?_); (case side1 => repeat (first | exact (Kd.C_below HR0_14.out HB.out) | (with_reducible refine Kd.C_alloc ?_ _) | (with_reducible refine Kd.C_drewN ?_ _) | (with_reducible refine Kd.C_drew ?_))); (case side2 => exact HC0_14.out); rintro e w' ⟨rfl, ⟨nd, rfl⟩⟩; refine ⟨_, rfl, ?_⟩))
          go_ret
          exact ⟨by first | rfl | (simp [errW_none, errW_some] <;> rfl) | (simp [*, errW_none, errW_some] <;> rfl), by repeat (first | (with_reducible first | exact HB.out | apply below_alloc | apply pw_below_drewN | apply below_drew1 | refine below_set ?_ GE237.out) | exact HB.out)⟩
        · rw [if_neg c7] at H
          have c7b0 : (t239 == 0) = false := beq_eq_false_iff_ne.mpr c7
          have c7b1 : (t239 != 0) = true := bne_iff_ne.mpr c7
          obtain rfl := Option.some.inj H
          go_enter Try.func15, Try.ntmps15
          go_wp2_with (first | ((with_reducible refine gate_dst (N := 1) rfl ?_); (try (refine gate_guard (by rfl) ?_; dsimp only)); refine box_event ?hg (N := 1) ?hd (cs := #[.int .u8 a0_0, .int .u8 a0_1, .int .u8 a0_2, .int .u8 a0_3, .int .u32 a0_4, .int .u16 a0_5, .int .u16 a0_6, .int .u32 a0_7, .int .u32 a0_8, .int .u32 a0_9, .int .u32 a0_10, .string a0_11, .string a0_12, .string a0_13, .slice A0_14 l0_14.length c0_14]) (t := 26) ?hr ?_; (case hd => rfl); (case hg => rfl); (case hr => first | (go_simp; done) | (go_simp; rfl)); intro gb237 hg w12 hbox hb; have n0_ := Aside0.mk (below_step (by repeat (first | (with_reducible first | exact HB.out | apply below_alloc | apply pw_below_drewN | apply below_drew1) | exact HB.out)) hb); have n1_ := Aside0.mk (hbox); have n2_ := Aside0.mk ((by rw [hg]; exact (below_size (by repeat (first | (with_reducible first | exact HB.out | apply below_alloc | apply pw_below_drewN | apply below_drew1) | exact HB.out))) : w.heap.size ≤ gb237)); have n3_ := Aside0.mk ((by rw [hg]; exact (below_size (by repeat (first | (with_reducible first | exact HB.out | apply below_alloc | apply pw_below_drewN | apply below_drew1) | exact HB.out))) : w.heap.size ≤ gb237)); clear HB; have HB := n0_; have BK237 := n1_; have GW237 := n2_; have GE237 := n3_; clear n0_ n1_ n2_ n3_; clear hb hbox hg; obtain ⟨hcz13_0, hcz13_1, hcz13_2, hcz13_3, hcz13_4, hcz13_5, hcz13_6, hcz13_7, hcz13_8, hcz13_9, hcz13_10, hcz13_11, hcz13_12, hcz13_13, hcz13_14⟩ := XRun.bc15 BK237.out; obtain ⟨hfz13_0, hfz13_1, hfz13_2, hfz13_3, hfz13_4, hfz13_5, hfz13_6, hfz13_7, hfz13_8, hfz13_9, hfz13_10, hfz13_11, hfz13_12, hfz13_13, hfz13_14⟩ := XRun.bf15 BK237.out) | ((with_reducible refine gate_callee (f := 29) rfl ?_); refine goesL_ (some 10) rfl rfl Try.func29 (by kernel_rfl) rfl #[.slice A0_14 l0_14.length c0_14] rfl (by (try simp only [List.map_toArray, List.map_cons, List.map_nil]); first | done | rfl | (simp only [List.length_drop, List.length_take]; rfl)) ?_; (with_reducible refine (tenancyref13_Emit.calls k _ _ l0_14 t238 t239 _ ?side1 ?side2 A2.out).mono ?_); (case side1 => repeat (first | exact (Kd.C_below HR0_14.out HB.out) | (with_reducible refine Kd.C_alloc ?_ _) | (with_reducible refine Kd.C_drewN ?_ _) | (with_reducible refine Kd.C_drew ?_))); (case side2 => exact HC0_14.out); rintro e w14 ⟨rfl, hb⟩; refine ⟨_, rfl, ?_⟩; have n0_ := Aside0.mk (blk_below (g := gb237) (o := .cells #[.int .u8 a0_0, .int .u8 a0_1, .int .u8 a0_2, .int .u8 a0_3, .int .u32 a0_4, .int .u16 a0_5, .int .u16 a0_6, .int .u32 a0_7, .int .u32 a0_8, .int .u32 a0_9, .int .u32 a0_10, .string a0_11, .string a0_12, .string a0_13, .slice A0_14 l0_14.length c0_14] 26 (0, 0)) (by (with_reducible repeat (first | refine blk_drewN ?_ _ | refine blk_drew ?_ | refine blk_alloc ?_ _)); exact BK237.out) hb); have n1_ := Aside0.mk (below_step (by repeat (first | (with_reducible first | exact HB.out | apply below_alloc | apply pw_below_drewN | apply below_drew1 | refine below_set ?_ GE237.out) | exact HB.out)) hb); clear BK237; clear HB; have BK237 := n0_; have HB := n1_; clear n0_ n1_; (try clear hb); (try clear hb2); (try clear hk); (try clear hi); obtain ⟨hcz15_0, hcz15_1, hcz15_2, hcz15_3, hcz15_4, hcz15_5, hcz15_6, hcz15_7, hcz15_8, hcz15_9, hcz15_10, hcz15_11, hcz15_12, hcz15_13, hcz15_14⟩ := XRun.bc15 BK237.out; obtain ⟨hfz15_0, hfz15_1, hfz15_2, hfz15_3, hfz15_4, hfz15_5, hfz15_6, hfz15_7, hfz15_8, hfz15_9, hfz15_10, hfz15_11, hfz15_12, hfz15_13, hfz15_14⟩ := XRun.bf15 BK237.out) | ((with_reducible refine gate_callee (f := 33) rfl ?_); refine goesL_ (some 16) rfl rfl Try.func33 (by kernel_rfl) rfl #[.slice A0_14 l0_14.length c0_14, .int .u8 52] rfl (by (try simp only [List.map_toArray, List.map_cons, List.map_nil]); first | done | rfl | (simp only [List.length_drop, List.length_take]; rfl)) ?_; (with_reducible refine (tenancyref13_Find.calls k _ _ l0_14 52 t240 t241 _ ?side1 ?side2 A3.out).mono ?_); (case side1 => repeat (first | exact (Kd.C_below HR0_14.out HB.out) | (with_reducible refine Kd.C_alloc ?_ _) | (with_reducible refine Kd.C_drewN ?_ _) | (with_reducible refine Kd.C_drew ?_))); (case side2 => exact HC0_14.out); rintro e w' ⟨rfl, ⟨nd, rfl⟩⟩; refine ⟨_, rfl, ?_⟩))
          go_ret
          exact ⟨by first | rfl | (simp [errW_none, errW_some] <;> rfl) | (simp [*, errW_none, errW_some] <;> rfl), by repeat (first | (with_reducible first | exact HB.out | apply below_alloc | apply pw_below_drewN | apply below_drew1 | refine below_set ?_ GE237.out) | exact HB.out)⟩
      · rw [if_neg c6] at H
        have c6b0 : ((a0_13.size : Int) == 128) = false := beq_eq_false_iff_ne.mpr c6
        have c6b1 : ((a0_13.size : Int) != 128) = true := bne_iff_ne.mpr c6
        obtain rfl := Option.some.inj H
        go_enter Try.func15, Try.ntmps15
        go_wp2_with (first | ((with_reducible refine gate_dst (N := 1) rfl ?_); (try (refine gate_guard (by rfl) ?_; dsimp only)); refine box_event ?hg (N := 1) ?hd (cs := #[.int .u8 a0_0, .int .u8 a0_1, .int .u8 a0_2, .int .u8 a0_3, .int .u32 a0_4, .int .u16 a0_5, .int .u16 a0_6, .int .u32 a0_7, .int .u32 a0_8, .int .u32 a0_9, .int .u32 a0_10, .string a0_11, .string a0_12, .string a0_13, .slice A0_14 l0_14.length c0_14]) (t := 26) ?hr ?_; (case hd => rfl); (case hg => rfl); (case hr => first | (go_simp; done) | (go_simp; rfl)); intro gb237 hg w16 hbox hb; have n0_ := Aside0.mk (below_step (by repeat (first | (with_reducible first | exact HB.out | apply below_alloc | apply pw_below_drewN | apply below_drew1) | exact HB.out)) hb); have n1_ := Aside0.mk (hbox); have n2_ := Aside0.mk ((by rw [hg]; exact (below_size (by repeat (first | (with_reducible first | exact HB.out | apply below_alloc | apply pw_below_drewN | apply below_drew1) | exact HB.out))) : w.heap.size ≤ gb237)); have n3_ := Aside0.mk ((by rw [hg]; exact (below_size (by repeat (first | (with_reducible first | exact HB.out | apply below_alloc | apply pw_below_drewN | apply below_drew1) | exact HB.out))) : w.heap.size ≤ gb237)); clear HB; have HB := n0_; have BK237 := n1_; have GW237 := n2_; have GE237 := n3_; clear n0_ n1_ n2_ n3_; clear hb hbox hg; obtain ⟨hcz17_0, hcz17_1, hcz17_2, hcz17_3, hcz17_4, hcz17_5, hcz17_6, hcz17_7, hcz17_8, hcz17_9, hcz17_10, hcz17_11, hcz17_12, hcz17_13, hcz17_14⟩ := XRun.bc15 BK237.out; obtain ⟨hfz17_0, hfz17_1, hfz17_2, hfz17_3, hfz17_4, hfz17_5, hfz17_6, hfz17_7, hfz17_8, hfz17_9, hfz17_10, hfz17_11, hfz17_12, hfz17_13, hfz17_14⟩ := XRun.bf15 BK237.out) | ((with_reducible refine gate_callee (f := 29) rfl ?_); refine goesL_ (some 10) rfl rfl Try.func29 (by kernel_rfl) rfl #[.slice A0_14 l0_14.length c0_14] rfl (by (try simp only [List.map_toArray, List.map_cons, List.map_nil]); first | done | rfl | (simp only [List.length_drop, List.length_take]; rfl)) ?_; (with_reducible refine (tenancyref13_Emit.calls k _ _ l0_14 t238 t239 _ ?side1 ?side2 A2.out).mono ?_); (case side1 => repeat (first | exact (Kd.C_below HR0_14.out HB.out) | (with_reducible refine Kd.C_alloc ?_ _) | (with_reducible refine Kd.C_drewN ?_ _) | (with_reducible refine Kd.C_drew ?_))); (case side2 => exact HC0_14.out); rintro e w18 ⟨rfl, hb⟩; refine ⟨_, rfl, ?_⟩; have n0_ := Aside0.mk (blk_below (g := gb237) (o := .cells #[.int .u8 a0_0, .int .u8 a0_1, .int .u8 a0_2, .int .u8 a0_3, .int .u32 a0_4, .int .u16 a0_5, .int .u16 a0_6, .int .u32 a0_7, .int .u32 a0_8, .int .u32 a0_9, .int .u32 a0_10, .string a0_11, .string a0_12, .string a0_13, .slice A0_14 l0_14.length c0_14] 26 (0, 0)) (by (with_reducible repeat (first | refine blk_drewN ?_ _ | refine blk_drew ?_ | refine blk_alloc ?_ _)); exact BK237.out) hb); have n1_ := Aside0.mk (below_step (by repeat (first | (with_reducible first | exact HB.out | apply below_alloc | apply pw_below_drewN | apply below_drew1 | refine below_set ?_ GE237.out) | exact HB.out)) hb); clear BK237; clear HB; have BK237 := n0_; have HB := n1_; clear n0_ n1_; (try clear hb); (try clear hb2); (try clear hk); (try clear hi); obtain ⟨hcz19_0, hcz19_1, hcz19_2, hcz19_3, hcz19_4, hcz19_5, hcz19_6, hcz19_7, hcz19_8, hcz19_9, hcz19_10, hcz19_11, hcz19_12, hcz19_13, hcz19_14⟩ := XRun.bc15 BK237.out; obtain ⟨hfz19_0, hfz19_1, hfz19_2, hfz19_3, hfz19_4, hfz19_5, hfz19_6, hfz19_7, hfz19_8, hfz19_9, hfz19_10, hfz19_11, hfz19_12, hfz19_13, hfz19_14⟩ := XRun.bf15 BK237.out) | ((with_reducible refine gate_callee (f := 33) rfl ?_); refine goesL_ (some 16) rfl rfl Try.func33 (by kernel_rfl) rfl #[.slice A0_14 l0_14.length c0_14, .int .u8 52] rfl (by (try simp only [List.map_toArray, List.map_cons, List.map_nil]); first | done | rfl | (simp only [List.length_drop, List.length_take]; rfl)) ?_; (with_reducible refine (tenancyref13_Find.calls k _ _ l0_14 52 t240 t241 _ ?side1 ?side2 A3.out).mono ?_); (case side1 => repeat (first | exact (Kd.C_below HR0_14.out HB.out) | (with_reducible refine Kd.C_alloc ?_ _) | (with_reducible refine Kd.C_drewN ?_ _) | (with_reducible refine Kd.C_drew ?_))); (case side2 => exact HC0_14.out); rintro e w' ⟨rfl, ⟨nd, rfl⟩⟩; refine ⟨_, rfl, ?_⟩))
        go_ret
        exact ⟨by first | rfl | (simp [errW_none, errW_some] <;> rfl) | (simp [*, errW_none, errW_some] <;> rfl), by repeat (first | (with_reducible first | exact HB.out | apply below_alloc | apply pw_below_drewN | apply below_drew1 | refine below_set ?_ GE237.out) | exact HB.out)⟩
    · rw [if_neg c5] at H
      have c5b0 : ((a0_12.size : Int) == 64) = false := beq_eq_false_iff_ne.mpr c5
      have c5b1 : ((a0_12.size : Int) != 64) = true := bne_iff_ne.mpr c5
      obtain rfl := Option.some.inj H
      go_enter Try.func15, Try.ntmps15
      go_wp2_with (first | ((with_reducible refine gate_dst (N := 1) rfl ?_); (try (refine gate_guard (by rfl) ?_; dsimp only)); refine box_event ?hg (N := 1) ?hd (cs := #[.int .u8 a0_0, .int .u8 a0_1, .int .u8 a0_2, .int .u8 a0_3, .int .u32 a0_4, .int .u16 a0_5, .int .u16 a0_6, .int .u32 a0_7, .int .u32 a0_8, .int .u32 a0_9, .int .u32 a0_10, .string a0_11, .string a0_12, .string a0_13, .slice A0_14 l0_14.length c0_14]) (t := 26) ?hr ?_; (case hd => rfl); (case hg => rfl); (case hr => first | (go_simp; done) | (go_simp; rfl)); intro gb237 hg w20 hbox hb; have n0_ := Aside0.mk (below_step (by repeat (first | (with_reducible first | exact HB.out | apply below_alloc | apply pw_below_drewN | apply below_drew1) | exact HB.out)) hb); have n1_ := Aside0.mk (hbox); have n2_ := Aside0.mk ((by rw [hg]; exact (below_size (by repeat (first | (with_reducible first | exact HB.out | apply below_alloc | apply pw_below_drewN | apply below_drew1) | exact HB.out))) : w.heap.size ≤ gb237)); have n3_ := Aside0.mk ((by rw [hg]; exact (below_size (by repeat (first | (with_reducible first | exact HB.out | apply below_alloc | apply pw_below_drewN | apply below_drew1) | exact HB.out))) : w.heap.size ≤ gb237)); clear HB; have HB := n0_; have BK237 := n1_; have GW237 := n2_; have GE237 := n3_; clear n0_ n1_ n2_ n3_; clear hb hbox hg; obtain ⟨hcz21_0, hcz21_1, hcz21_2, hcz21_3, hcz21_4, hcz21_5, hcz21_6, hcz21_7, hcz21_8, hcz21_9, hcz21_10, hcz21_11, hcz21_12, hcz21_13, hcz21_14⟩ := XRun.bc15 BK237.out; obtain ⟨hfz21_0, hfz21_1, hfz21_2, hfz21_3, hfz21_4, hfz21_5, hfz21_6, hfz21_7, hfz21_8, hfz21_9, hfz21_10, hfz21_11, hfz21_12, hfz21_13, hfz21_14⟩ := XRun.bf15 BK237.out) | ((with_reducible refine gate_callee (f := 29) rfl ?_); refine goesL_ (some 10) rfl rfl Try.func29 (by kernel_rfl) rfl #[.slice A0_14 l0_14.length c0_14] rfl (by (try simp only [List.map_toArray, List.map_cons, List.map_nil]); first | done | rfl | (simp only [List.length_drop, List.length_take]; rfl)) ?_; (with_reducible refine (tenancyref13_Emit.calls k _ _ l0_14 t238 t239 _ ?side1 ?side2 A2.out).mono ?_); (case side1 => repeat (first | exact (Kd.C_below HR0_14.out HB.out) | (with_reducible refine Kd.C_alloc ?_ _) | (with_reducible refine Kd.C_drewN ?_ _) | (with_reducible refine Kd.C_drew ?_))); (case side2 => exact HC0_14.out); rintro e w22 ⟨rfl, hb⟩; refine ⟨_, rfl, ?_⟩; have n0_ := Aside0.mk (blk_below (g := gb237) (o := .cells #[.int .u8 a0_0, .int .u8 a0_1, .int .u8 a0_2, .int .u8 a0_3, .int .u32 a0_4, .int .u16 a0_5, .int .u16 a0_6, .int .u32 a0_7, .int .u32 a0_8, .int .u32 a0_9, .int .u32 a0_10, .string a0_11, .string a0_12, .string a0_13, .slice A0_14 l0_14.length c0_14] 26 (0, 0)) (by (with_reducible repeat (first | refine blk_drewN ?_ _ | refine blk_drew ?_ | refine blk_alloc ?_ _)); exact BK237.out) hb); have n1_ := Aside0.mk (below_step (by repeat (first | (with_reducible first | exact HB.out | apply below_alloc | apply pw_below_drewN | apply below_drew1 | refine below_set ?_ GE237.out) | exact HB.out)) hb); clear BK237; clear HB; have BK237 := n0_; have HB := n1_; clear n0_ n1_; (try clear hb); (try clear hb2); (try clear hk); (try clear hi); obtain ⟨hcz23_0, hcz23_1, hcz23_2, hcz23_3, hcz23_4, hcz23_5, hcz23_6, hcz23_7, hcz23_8, hcz23_9, hcz23_10, hcz23_11, hcz23_12, hcz23_13, hcz23_14⟩ := XRun.bc15 BK237.out; obtain ⟨hfz23_0, hfz23_1, hfz23_2, hfz23_3, hfz23_4, hfz23_5, hfz23_6, hfz23_7, hfz23_8, hfz23_9, hfz23_10, hfz23_11, hfz23_12, hfz23_13, hfz23_14⟩ := XRun.bf15 BK237.out) | ((with_reducible refine gate_callee (f := 33) rfl ?_); refine goesL_ (some 16) rfl rfl Try.func33 (by kernel_rfl) rfl #[.slice A0_14 l0_14.length c0_14, .int .u8 52] rfl (by (try simp only [List.map_toArray, List.map_cons, List.map_nil]); first | done | rfl | (simp only [List.length_drop, List.length_take]; rfl)) ?_; (with_reducible refine (tenancyref13_Find.calls k _ _ l0_14 52 t240 t241 _ ?side1 ?side2 A3.out).mono ?_); (case side1 => repeat (first | exact (Kd.C_below HR0_14.out HB.out) | (with_reducible refine Kd.C_alloc ?_ _) | (with_reducible refine Kd.C_drewN ?_ _) | (with_reducible refine Kd.C_drew ?_))); (case side2 => exact HC0_14.out); rintro e w' ⟨rfl, ⟨nd, rfl⟩⟩; refine ⟨_, rfl, ?_⟩))
      go_ret
      exact ⟨by first | rfl | (simp [errW_none, errW_some] <;> rfl) | (simp [*, errW_none, errW_some] <;> rfl), by repeat (first | (with_reducible first | exact HB.out | apply below_alloc | apply pw_below_drewN | apply below_drew1 | refine below_set ?_ GE237.out) | exact HB.out)⟩
  · rw [if_neg c4] at H
    have c4b0 : ((a0_11.size : Int) == 16) = false := beq_eq_false_iff_ne.mpr c4
    have c4b1 : ((a0_11.size : Int) != 16) = true := bne_iff_ne.mpr c4
    obtain rfl := Option.some.inj H
    go_enter Try.func15, Try.ntmps15
    go_wp2_with (first | ((with_reducible refine gate_dst (N := 1) rfl ?_); (try (refine gate_guard (by rfl) ?_; dsimp only)); refine box_event ?hg (N := 1) ?hd (cs := #[.int .u8 a0_0, .int .u8 a0_1, .int .u8 a0_2, .int .u8 a0_3, .int .u32 a0_4, .int .u16 a0_5, .int .u16 a0_6, .int .u32 a0_7, .int .u32 a0_8, .int .u32 a0_9, .int .u32 a0_10, .string a0_11, .string a0_12, .string a0_13, .slice A0_14 l0_14.length c0_14]) (t := 26) ?hr ?_; (case hd => rfl); (case hg => rfl); (case hr => first | (go_simp; done) | (go_simp; rfl)); intro gb237 hg w24 hbox hb; have n0_ := Aside0.mk (below_step (by repeat (first | (with_reducible first | exact HB.out | apply below_alloc | apply pw_below_drewN | apply below_drew1) | exact HB.out)) hb); have n1_ := Aside0.mk (hbox); have n2_ := Aside0.mk ((by rw [hg]; exact (below_size (by repeat (first | (with_reducible first | exact HB.out | apply below_alloc | apply pw_below_drewN | apply below_drew1) | exact HB.out))) : w.heap.size ≤ gb237)); have n3_ := Aside0.mk ((by rw [hg]; exact (below_size (by repeat (first | (with_reducible first | exact HB.out | apply below_alloc | apply pw_below_drewN | apply below_drew1) | exact HB.out))) : w.heap.size ≤ gb237)); clear HB; have HB := n0_; have BK237 := n1_; have GW237 := n2_; have GE237 := n3_; clear n0_ n1_ n2_ n3_; clear hb hbox hg; obtain ⟨hcz25_0, hcz25_1, hcz25_2, hcz25_3, hcz25_4, hcz25_5, hcz25_6, hcz25_7, hcz25_8, hcz25_9, hcz25_10, hcz25_11, hcz25_12, hcz25_13, hcz25_14⟩ := XRun.bc15 BK237.out; obtain ⟨hfz25_0, hfz25_1, hfz25_2, hfz25_3, hfz25_4, hfz25_5, hfz25_6, hfz25_7, hfz25_8, hfz25_9, hfz25_10, hfz25_11, hfz25_12, hfz25_13, hfz25_14⟩ := XRun.bf15 BK237.out) | ((with_reducible refine gate_callee (f := 29) rfl ?_); refine goesL_ (some 10) rfl rfl Try.func29 (by kernel_rfl) rfl #[.slice A0_14 l0_14.length c0_14] rfl (by (try simp only [List.map_toArray, List.map_cons, List.map_nil]); first | done | rfl | (simp only [List.length_drop, List.length_take]; rfl)) ?_; (with_reducible refine (tenancyref13_Emit.calls k _ _ l0_14 t238 t239 _ ?side1 ?side2 A2.out).mono ?_); (case side1 => repeat (first | exact (Kd.C_below HR0_14.out HB.out) | (with_reducible refine Kd.C_alloc ?_ _) | (with_reducible refine Kd.C_drewN ?_ _) | (with_reducible refine Kd.C_drew ?_))); (case side2 => exact HC0_14.out); rintro e w26 ⟨rfl, hb⟩; refine ⟨_, rfl, ?_⟩; have n0_ := Aside0.mk (blk_below (g := gb237) (o := .cells #[.int .u8 a0_0, .int .u8 a0_1, .int .u8 a0_2, .int .u8 a0_3, .int .u32 a0_4, .int .u16 a0_5, .int .u16 a0_6, .int .u32 a0_7, .int .u32 a0_8, .int .u32 a0_9, .int .u32 a0_10, .string a0_11, .string a0_12, .string a0_13, .slice A0_14 l0_14.length c0_14] 26 (0, 0)) (by (with_reducible repeat (first | refine blk_drewN ?_ _ | refine blk_drew ?_ | refine blk_alloc ?_ _)); exact BK237.out) hb); have n1_ := Aside0.mk (below_step (by repeat (first | (with_reducible first | exact HB.out | apply below_alloc | apply pw_below_drewN | apply below_drew1 | refine below_set ?_ GE237.out) | exact HB.out)) hb); clear BK237; clear HB; have BK237 := n0_; have HB := n1_; clear n0_ n1_; (try clear hb); (try clear hb2); (try clear hk); (try clear hi); obtain ⟨hcz27_0, hcz27_1, hcz27_2, hcz27_3, hcz27_4, hcz27_5, hcz27_6, hcz27_7, hcz27_8, hcz27_9, hcz27_10, hcz27_11, hcz27_12, hcz27_13, hcz27_14⟩ := XRun.bc15 BK237.out; obtain ⟨hfz27_0, hfz27_1, hfz27_2, hfz27_3, hfz27_4, hfz27_5, hfz27_6, hfz27_7, hfz27_8, hfz27_9, hfz27_10, hfz27_11, hfz27_12, hfz27_13, hfz27_14⟩ := XRun.bf15 BK237.out) | ((with_reducible refine gate_callee (f := 33) rfl ?_); refine goesL_ (some 16) rfl rfl Try.func33 (by kernel_rfl) rfl #[.slice A0_14 l0_14.length c0_14, .int .u8 52] rfl (by (try simp only [List.map_toArray, List.map_cons, List.map_nil]); first | done | rfl | (simp only [List.length_drop, List.length_take]; rfl)) ?_; (with_reducible refine (tenancyref13_Find.calls k _ _ l0_14 52 t240 t241 _ ?side1 ?side2 A3.out).mono ?_); (case side1 => repeat (first | exact (Kd.C_below HR0_14.out HB.out) | (with_reducible refine Kd.C_alloc ?_ _) | (with_reducible refine Kd.C_drewN ?_ _) | (with_reducible refine Kd.C_drew ?_))); (case side2 => exact HC0_14.out); rintro e w' ⟨rfl, ⟨nd, rfl⟩⟩; refine ⟨_, rfl, ?_⟩))
    go_ret
    exact ⟨by first | rfl | (simp [errW_none, errW_some] <;> rfl) | (simp [*, errW_none, errW_some] <;> rfl), by repeat (first | (with_reducible first | exact HB.out | apply below_alloc | apply pw_below_drewN | apply below_drew1 | refine below_set ?_ GE237.out) | exact HB.out)⟩

/-! ### tenancyref04_put: function 50 -/
def tenancyref04_put.l0 : Nat → Int → List Int → Int → Option (ByteArray)
  | 0, _, _, _ => none
  | k + 1, x0, x5, x6 => if x6 ≥ 0 then (if 0 ≤ (IntKind.u64.wrap (wrap64 (8 * x6))) then (if x5.length < 140737488355328 then (tenancyref04_put.l0 k x0 (x5 ++ [(shr .u64 x0 (IntKind.u64.wrap (wrap64 (8 * x6)))) % 256]) (wrap64 (x6 - 1))) else (none)) else (none)) else (some (strOfNums x5))
def tenancyref04_put.f (k : Nat) (a0 : Int) (a1 : Int) : Option (ByteArray) := tenancyref04_put.l0 k a0 (([] : List Int)) (wrap64 (a1 - 1))
theorem tenancyref04_put.mono_l : ∀ k, (∀ y0 y1 y2, LeO (tenancyref04_put.l0 k y0 y1 y2) (tenancyref04_put.l0 (k + 1) y0 y1 y2))
  | 0 => fun _ _ _ r h => by simp [tenancyref04_put.l0] at h
  | k + 1 => by
    have ih0 := tenancyref04_put.mono_l k
    · intro y0 y1 y2
      unfold tenancyref04_put.l0
      repeat' first
      | (with_reducible exact ih0 _ _ _)
      | (with_reducible exact LeO.refl _)
      | (with_reducible exact LeO.none _)
      | (with_reducible refine LeO.ite ?_ ?_)
      | (with_reducible refine LeO.bind ?_ (fun _ => ?_))
      | exact ih0 _ _ _
      | exact LeO.none _
      | refine LeO.ite ?_ ?_
      | refine LeO.bind ?_ (fun _ => ?_)
theorem tenancyref04_put.mono : ∀ a0 a1 k, LeO (tenancyref04_put.f k a0 a1) (tenancyref04_put.f (k + 1) a0 a1) := by
  intro a0 a1 k
  have ih0 := tenancyref04_put.mono_l k
  unfold tenancyref04_put.f
  repeat' first
      | (with_reducible exact ih0 _ _ _)
      | (with_reducible exact LeO.refl _)
      | (with_reducible exact LeO.none _)
      | (with_reducible refine LeO.ite ?_ ?_)
      | (with_reducible refine LeO.bind ?_ (fun _ => ?_))
      | exact ih0 _ _ _
      | exact LeO.none _
      | refine LeO.ite ?_ ?_
      | refine LeO.bind ?_ (fun _ => ?_)
set_option maxHeartbeats 8000000 in
set_option maxRecDepth 100000 in
theorem tenancyref04_put.calls (k : Nat) (a0 : Int) (a1 : Int) (r : ByteArray) (w : World) (h : tenancyref04_put.f k a0 a1 = some r) :
    Calls Try.prog 50 #[.int .u64 a0, .int .i64 a1] w fun e w' => e = .returned (.string r) ∧ Below w.heap.size w w' := by
  have HB := Aside0.mk (Below.refl w.heap.size w)
  have H : (tenancyref04_put.l0 k a0 (([] : List Int)) (wrap64 (a1 - 1))) = some r := h
  clear h
  obtain ⟨y242, hy242⟩ : ∃ y_ : List Int, y_ = (([] : List Int)) := ⟨_, rfl⟩
  replace H : (tenancyref04_put.l0 k a0 y242 (wrap64 (a1 - 1))) = some r := by first | (rw [hy242]; with_reducible exact H) | (have H2_ := (Option.bind_some _ _).symm.trans H; rw [hy242]; with_reducible exact H2_) | (have H2_ := (Option.bind_some _ _).symm.trans H; with_reducible exact H2_) | with_reducible exact H | (rw [hy242]; exact H) | exact H
  have Ny242 := Aside0.mk hy242
  clear hy242
  have H' := Aside0.mk H
  clear H
  go_enter Try.func50, Try.ntmps50
  go_wp2_with (first | ((with_reducible refine gate_dst (N := 7) rfl ?_); refine Kd.R_lit (Kd.int .u8) _ 5 ?hg (N := 7) ?hd (xs := ([] : List Int)) (inner := []) (ok := fun _ => True) (okp := fun _ => True) ?hr ?hp (fun _ hk => hk) trivial (Below.refl _ _) (Nat.le_refl _) (by simp) ?_; (case hd => rfl); (case hg => rfl); (case hr => first | (go_simp; done) | (go_simp; rfl)); (case hp => exact (Reps.none _ _)); intro v243 w3 ho4 hb hg_ hnew_; clear hg_ hnew_; (first | rw [← Ny242.out] at ho4 | (simp only [Int.reduceToNat] at ho4; rw [← Ny242.out] at ho4)); have n0_ := Aside0.mk (Kd.R_lower ho4 (below_size (by repeat (first | (with_reducible first | exact HB.out | apply below_alloc | apply pw_below_drewN | apply below_drew1) | exact HB.out)))); have n1_ := Aside0.mk (below_step (by repeat (first | (with_reducible first | exact HB.out | apply below_alloc | apply pw_below_drewN | apply below_drew1) | exact HB.out)) hb); clear HB; have HO244 := n0_; have HB := n1_; clear n0_ n1_; clear hb ho4))
  go_loopg [5, 6] k (fun kq v5 v6 w' => ∃ (x5_1 : List Int) (x6_1 : Int), v6 = .int .i64 x6_1 ∧ Aside0 (tenancyref04_put.l0 kq a0 x5_1 x6_1 = some r) ∧ Aside0 (kq ≤ k) ∧ Aside0 (Kd.R (Kd.int .u8) 5 w' w.heap.size (fun _ => True) v5 x5_1) ∧ Aside0 (Below w.heap.size w w'))
  case atStart => exact ⟨(y242), (wrap64 (a1 - 1)), (by first | rfl | (simp; done) | (simp only [ByteArray.size_extract]; rw [Nat.min_eq_left (by omega)]; done) | (simp [*]; done)), H', ⟨Nat.le_refl _⟩, ⟨by (with_reducible repeat (first | apply Kd.R_alloc | apply Kd.R_drewN | apply Kd.R_drew)); exact HO244.out⟩, ⟨by repeat (first | (with_reducible first | exact HB.out | apply below_alloc | apply pw_below_drewN | apply below_drew1) | exact HB.out)⟩⟩
  case round =>
    clear H'
    try clear p2
    obtain ⟨x5_1, x6_1, rfl, HA, HK1, HO_5, HB⟩ := hrel
    cases gk with
    | zero => exact absurd HA.out (by simp [tenancyref04_put.l0])
    | succ k1 =>
      have H := HA.out
      clear HA
      simp only [tenancyref04_put.l0] at H
      by_cases c5 : x6_1 ≥ 0
      · rw [if_pos c5] at H
        have c5b0 : decide (0 ≤ x6_1) = true := decide_eq_true c5
        clear c5
        obtain ⟨ji6, hji6⟩ : ∃ j_ : Int, (IntKind.u64.wrap (wrap64 (8 * x6_1))) = j_ := ⟨_, rfl⟩
        replace H : (if 0 ≤ (ji6) then (if x5_1.length < 140737488355328 then (tenancyref04_put.l0 k1 a0 (x5_1 ++ [(shr .u64 a0 (ji6)) % 256]) (wrap64 (x6_1 - 1))) else (none)) else (none)) = some r := by first | (rw [hji6] at H; exact H) | (simp only [hji6] at H ⊢; exact H)
        by_cases c7 : 0 ≤ (ji6)
        · rw [if_pos c7] at H
          have c7b0 := eq_true c7
          have c7b1 : decide (0 ≤ (ji6)) = true := decide_eq_true c7
          clear c7
          obtain ⟨ji8, hji8⟩ : ∃ j_ : Int, (shr .u64 a0 (ji6)) = j_ := ⟨_, rfl⟩
          replace H : (if x5_1.length < 140737488355328 then (tenancyref04_put.l0 k1 a0 (x5_1 ++ [(ji8) % 256]) (wrap64 (x6_1 - 1))) else (none)) = some r := by first | (rw [hji8] at H; exact H) | (simp only [hji8] at H ⊢; exact H)
          have hji8_ : (a0 / 2 ^ min (ji6).toNat 64) = ji8 := hji8
          have hji8z : (ji6) ≤ 64 → (a0 / 2 ^ (ji6).toNat) = ji8 := shr_small hji8
          by_cases c9 : x5_1.length < 140737488355328
          · rw [if_pos c9] at H
            have LMc9 := Aside0.mk c9
            clear c9
            obtain ⟨y245, hy245⟩ : ∃ y_ : List Int, y_ = (x5_1 ++ [(ji8) % 256]) := ⟨_, rfl⟩
            replace H : (tenancyref04_put.l0 k1 a0 y245 (wrap64 (x6_1 - 1))) = some r := by first | (rw [hy245]; with_reducible exact H) | (have H2_ := (Option.bind_some _ _).symm.trans H; rw [hy245]; with_reducible exact H2_) | (have H2_ := (Option.bind_some _ _).symm.trans H; with_reducible exact H2_) | with_reducible exact H | (rw [hy245]; exact H) | exact H
            have Ny245 := Aside0.mk hy245
            clear hy245
            have H' := Aside0.mk H
            clear H
            go_wp2_with (first | ((with_reducible refine gate_builtin (b := .append) (xs := #[.tmp 14, .tmp 21]) rfl ?_); at_builtin; refine Kd.R_append (Kd.int .u8) (w0 := w) w.heap.size rfl (.tmp 14) (.tmp 21) 39 5 (.int .u8 0) 1 rfl Try.underlying39 info5 rfl (by decide) (by omega) u5 x5_1 ((ji8) % 256) [.int .u8 ((ji8) % 256)] (fun _ => True) (fun _ => False) rfl rfl ?aP (fun _ hk => hk.elim) ?aF ?aO ?aB ?aS ?aL ?_; (case aP => exact rfl); (case aB => exact (by repeat (first | (with_reducible first | exact HB.out | apply below_alloc | apply pw_below_drewN | apply below_drew1) | exact HB.out))); (case aF => exact (fun _ _ => trivial)); (case aO => exact (by (with_reducible repeat (first | apply Kd.R_alloc | apply Kd.R_drewN | apply Kd.R_drew)); exact HO_5.out)); (case aS => exact (below_size (by repeat (first | (with_reducible first | exact HB.out | apply below_alloc | apply pw_below_drewN | apply below_drew1) | exact HB.out)))); (case aL => have := LMc9.out; omega); intro v246 w10 ho hb hg hat; rw [← Ny245.out] at ho; have n0_ := Aside0.mk (hb); have n1_ := Aside0.mk (ho); clear HB; clear HO_5; have HB := n0_; have HO247 := n1_; clear n0_ n1_; clear ho hb hg hat))
            go_roundg k1
            case measure => have := HK1.out; omega
            case rel => exact ⟨(y245), (wrap64 (x6_1 - 1)), (by first | rfl | (simp; done) | (simp only [ByteArray.size_extract]; rw [Nat.min_eq_left (by omega)]; done) | (simp [*]; done)), H', ⟨by have := HK1.out; omega⟩, ⟨by (with_reducible repeat (first | apply Kd.R_alloc | apply Kd.R_drewN | apply Kd.R_drew)); exact HO247.out⟩, ⟨by repeat (first | (with_reducible first | exact HB.out | apply below_alloc | apply pw_below_drewN | apply below_drew1) | exact HB.out)⟩⟩
          · rw [if_neg c9] at H
            exact absurd H (by simp)
        · rw [if_neg c7] at H
          exact absurd H (by simp)
      · rw [if_neg c5] at H
        have c5b0 : decide (0 ≤ x6_1) = false := decide_eq_false c5
        clear c5
        obtain rfl := Option.some.inj H
        have hcv11 := own_string (P := Try.prog) Try.underlying39 Try.underlying5 Try.underlying9 (Kd.own_of_R HO_5.out)
        go_wp2
        go_ret
        exact ⟨by first | rfl | (simp [errW_none, errW_some] <;> rfl) | (simp [*, errW_none, errW_some] <;> rfl), by repeat (first | (with_reducible first | exact HB.out | apply below_alloc | apply pw_below_drewN | apply below_drew1) | exact HB.out)⟩

/-! ### tenancyref04_Put32: function 30 -/
def tenancyref04_Put32.f (k : Nat) (a0 : Int) : Option (ByteArray) := (tenancyref04_put.f k (IntKind.u64.wrap (a0)) 4).bind fun t248 => (some t248)
theorem tenancyref04_Put32.mono : ∀ a0 k, LeO (tenancyref04_Put32.f k a0) (tenancyref04_Put32.f (k + 1) a0) := by
  intro a0 k
  unfold tenancyref04_Put32.f
  repeat' first
      | (with_reducible exact tenancyref04_put.mono _ _ _)
      | (with_reducible exact LeO.refl _)
      | (with_reducible exact LeO.none _)
      | (with_reducible refine LeO.ite ?_ ?_)
      | (with_reducible refine LeO.bind ?_ (fun _ => ?_))
      | exact tenancyref04_put.mono _ _ _
      | exact LeO.none _
      | refine LeO.ite ?_ ?_
      | refine LeO.bind ?_ (fun _ => ?_)
set_option maxHeartbeats 8000000 in
set_option maxRecDepth 100000 in
theorem tenancyref04_Put32.calls (k : Nat) (a0 : Int) (r : ByteArray) (w : World) (h : tenancyref04_Put32.f k a0 = some r) :
    Calls Try.prog 30 #[.int .u32 a0] w fun e w' => e = .returned (.string r) ∧ Below w.heap.size w w' := by
  have HB := Aside0.mk (Below.refl w.heap.size w)
  have H : ((tenancyref04_put.f k (IntKind.u64.wrap (a0)) 4).bind fun t248 => (some t248)) = some r := h
  clear h
  replace H := Option.bind_eq_some_iff.mp H
  obtain ⟨t248, A20, H⟩ := H
  replace H : (some t248) = some r := H
  have A2 := Aside0.mk A20
  clear A20
  obtain rfl := Option.some.inj H
  go_enter Try.func30, Try.ntmps30
  go_wp2_with (first | ((with_reducible refine gate_callee (f := 50) rfl ?_); refine goesL_ (some 5) rfl rfl Try.func50 (by kernel_rfl) rfl #[.int .u64 (IntKind.u64.wrap (a0)), .int .i64 4] rfl (by (try simp only [List.map_toArray, List.map_cons, List.map_nil]); first | done | rfl | (simp only [List.length_drop, List.length_take]; rfl)) ?_; (with_reducible refine (tenancyref04_put.calls k (IntKind.u64.wrap (a0)) 4 t248 _ A2.out).mono ?_); rintro e w3 ⟨rfl, hb⟩; refine ⟨_, rfl, ?_⟩; have n0_ := Aside0.mk (below_step (by repeat (first | (with_reducible first | exact HB.out | apply below_alloc | apply pw_below_drewN | apply below_drew1) | exact HB.out)) hb); clear HB; have HB := n0_; clear n0_; (try clear hb); (try clear hb2); (try clear hk); (try clear hi)))
  go_ret
  exact ⟨by first | rfl | (simp [errW_none, errW_some] <;> rfl) | (simp [*, errW_none, errW_some] <;> rfl), by repeat (first | (with_reducible first | exact HB.out | apply below_alloc | apply pw_below_drewN | apply below_drew1) | exact HB.out)⟩

/-! ### tenancyref04_Put16: function 31 -/
def tenancyref04_Put16.f (k : Nat) (a0 : Int) : Option (ByteArray) := (tenancyref04_put.f k (IntKind.u64.wrap (a0)) 2).bind fun t249 => (some t249)
theorem tenancyref04_Put16.mono : ∀ a0 k, LeO (tenancyref04_Put16.f k a0) (tenancyref04_Put16.f (k + 1) a0) := by
  intro a0 k
  unfold tenancyref04_Put16.f
  repeat' first
      | (with_reducible exact tenancyref04_put.mono _ _ _)
      | (with_reducible exact LeO.refl _)
      | (with_reducible exact LeO.none _)
      | (with_reducible refine LeO.ite ?_ ?_)
      | (with_reducible refine LeO.bind ?_ (fun _ => ?_))
      | exact tenancyref04_put.mono _ _ _
      | exact LeO.none _
      | refine LeO.ite ?_ ?_
      | refine LeO.bind ?_ (fun _ => ?_)
set_option maxHeartbeats 8000000 in
set_option maxRecDepth 100000 in
theorem tenancyref04_Put16.calls (k : Nat) (a0 : Int) (r : ByteArray) (w : World) (h : tenancyref04_Put16.f k a0 = some r) :
    Calls Try.prog 31 #[.int .u16 a0] w fun e w' => e = .returned (.string r) ∧ Below w.heap.size w w' := by
  have HB := Aside0.mk (Below.refl w.heap.size w)
  have H : ((tenancyref04_put.f k (IntKind.u64.wrap (a0)) 2).bind fun t249 => (some t249)) = some r := h
  clear h
  replace H := Option.bind_eq_some_iff.mp H
  obtain ⟨t249, A20, H⟩ := H
  replace H : (some t249) = some r := H
  have A2 := Aside0.mk A20
  clear A20
  obtain rfl := Option.some.inj H
  go_enter Try.func31, Try.ntmps31
  go_wp2_with (first | ((with_reducible refine gate_callee (f := 50) rfl ?_); refine goesL_ (some 5) rfl rfl Try.func50 (by kernel_rfl) rfl #[.int .u64 (IntKind.u64.wrap (a0)), .int .i64 2] rfl (by (try simp only [List.map_toArray, List.map_cons, List.map_nil]); first | done | rfl | (simp only [List.length_drop, List.length_take]; rfl)) ?_; (with_reducible refine (tenancyref04_put.calls k (IntKind.u64.wrap (a0)) 2 t249 _ A2.out).mono ?_); rintro e w3 ⟨rfl, hb⟩; refine ⟨_, rfl, ?_⟩; have n0_ := Aside0.mk (below_step (by repeat (first | (with_reducible first | exact HB.out | apply below_alloc | apply pw_below_drewN | apply below_drew1) | exact HB.out)) hb); clear HB; have HB := n0_; clear n0_; (try clear hb); (try clear hb2); (try clear hk); (try clear hi)))
  go_ret
  exact ⟨by first | rfl | (simp [errW_none, errW_some] <;> rfl) | (simp [*, errW_none, errW_some] <;> rfl), by repeat (first | (with_reducible first | exact HB.out | apply below_alloc | apply pw_below_drewN | apply below_drew1) | exact HB.out)⟩

/-! ### tenancyref14_Encode: function 13 -/
def tenancyref14_Encode.f (k : Nat) (a0_0 : Int) (a0_1 : Int) (a0_2 : Int) (a0_3 : Int) (a0_4 : Int) (a0_5 : Int) (a0_6 : Int) (a0_7 : Int) (a0_8 : Int) (a0_9 : Int) (a0_10 : Int) (a0_11 : ByteArray) (a0_12 : ByteArray) (a0_13 : ByteArray) (l0_14 : List (S47)) : Option (ByteArray × Int) := (tenancyref14_Sound.f k a0_0 a0_1 a0_2 a0_3 a0_4 a0_5 a0_6 a0_7 a0_8 a0_9 a0_10 a0_11 a0_12 a0_13 l0_14).bind fun t251 => (if t251 = true then ((tenancyref13_Emit.f k l0_14).bind fun bt252 => ((some (([a0_0, a0_1, a0_2, a0_3] : List Int) : List Int)).bind fun y254 => ((tenancyref04_Put32.f k a0_4).bind fun t257 => (if (strOfNums y254).size + t257.size ≤ 9223372036854775807 then ((tenancyref04_Put16.f k a0_5).bind fun t258 => (if ((strOfNums y254) ++ t257).size + t258.size ≤ 9223372036854775807 then ((tenancyref04_Put16.f k a0_6).bind fun t259 => (if (((strOfNums y254) ++ t257) ++ t258).size + t259.size ≤ 9223372036854775807 then ((tenancyref04_Put32.f k a0_7).bind fun t260 => (if ((((strOfNums y254) ++ t257) ++ t258) ++ t259).size + t260.size ≤ 9223372036854775807 then ((tenancyref04_Put32.f k a0_8).bind fun t261 => (if (((((strOfNums y254) ++ t257) ++ t258) ++ t259) ++ t260).size + t261.size ≤ 9223372036854775807 then ((tenancyref04_Put32.f k a0_9).bind fun t262 => (if ((((((strOfNums y254) ++ t257) ++ t258) ++ t259) ++ t260) ++ t261).size + t262.size ≤ 9223372036854775807 then ((tenancyref04_Put32.f k a0_10).bind fun t263 => (if (((((((strOfNums y254) ++ t257) ++ t258) ++ t259) ++ t260) ++ t261) ++ t262).size + t263.size ≤ 9223372036854775807 then (if ((((((((strOfNums y254) ++ t257) ++ t258) ++ t259) ++ t260) ++ t261) ++ t262) ++ t263).size + a0_11.size ≤ 9223372036854775807 then (if (((((((((strOfNums y254) ++ t257) ++ t258) ++ t259) ++ t260) ++ t261) ++ t262) ++ t263) ++ a0_11).size + a0_12.size ≤ 9223372036854775807 then (if ((((((((((strOfNums y254) ++ t257) ++ t258) ++ t259) ++ t260) ++ t261) ++ t262) ++ t263) ++ a0_11) ++ a0_12).size + a0_13.size ≤ 9223372036854775807 then (if (((((((((((strOfNums y254) ++ t257) ++ t258) ++ t259) ++ t260) ++ t261) ++ t262) ++ t263) ++ a0_11) ++ a0_12) ++ a0_13).size + 4 ≤ 9223372036854775807 then (if ((((((((((((strOfNums y254) ++ t257) ++ t258) ++ t259) ++ t260) ++ t261) ++ t262) ++ t263) ++ a0_11) ++ a0_12) ++ a0_13) ++ (⟨#[99, 130, 83, 99]⟩ : ByteArray)).size + bt252.1.size ≤ 9223372036854775807 then (if ((((((((((((((strOfNums y254) ++ t257) ++ t258) ++ t259) ++ t260) ++ t261) ++ t262) ++ t263) ++ a0_11) ++ a0_12) ++ a0_13) ++ (⟨#[99, 130, 83, 99]⟩ : ByteArray)) ++ bt252.1).size : Int) > 65507 then (some ((⟨#[]⟩ : ByteArray), 6)) else (some (((((((((((((strOfNums y254) ++ t257) ++ t258) ++ t259) ++ t260) ++ t261) ++ t262) ++ t263) ++ a0_11) ++ a0_12) ++ a0_13) ++ (⟨#[99, 130, 83, 99]⟩ : ByteArray)) ++ bt252.1, 0))) else (none)) else (none)) else (none)) else (none)) else (none)) else (none))) else (none))) else (none))) else (none))) else (none))) else (none))) else (none))))) else (some ((⟨#[]⟩ : ByteArray), 141)))
theorem tenancyref14_Encode.mono : ∀ a0 a1 a2 a3 a4 a5 a6 a7 a8 a9 a10 a11 a12 a13 a14 k, LeO (tenancyref14_Encode.f k a0 a1 a2 a3 a4 a5 a6 a7 a8 a9 a10 a11 a12 a13 a14) (tenancyref14_Encode.f (k + 1) a0 a1 a2 a3 a4 a5 a6 a7 a8 a9 a10 a11 a12 a13 a14) := by
  intro a0 a1 a2 a3 a4 a5 a6 a7 a8 a9 a10 a11 a12 a13 a14 k
  unfold tenancyref14_Encode.f
  repeat' first
      | (with_reducible exact tenancyref04_Put16.mono _ _)
      | (with_reducible exact tenancyref04_Put32.mono _ _)
      | (with_reducible exact tenancyref13_Emit.mono _ _)
      | (with_reducible exact tenancyref14_Sound.mono _ _ _ _ _ _ _ _ _ _ _ _ _ _ _ _)
      | (with_reducible exact LeO.refl _)
      | (with_reducible exact LeO.none _)
      | (with_reducible refine LeO.ite ?_ ?_)
      | (with_reducible refine LeO.bind ?_ (fun _ => ?_))
      | exact tenancyref04_Put16.mono _ _
      | exact tenancyref04_Put32.mono _ _
      | exact tenancyref13_Emit.mono _ _
      | exact tenancyref14_Sound.mono _ _ _ _ _ _ _ _ _ _ _ _ _ _ _ _
      | exact LeO.none _
      | refine LeO.ite ?_ ?_
      | refine LeO.bind ?_ (fun _ => ?_)
def tenancyref14_Encode.T5 : Bool × List (List Nat × List Nat) := (true, [([], []), ([], []), ([1], [1]), ([2], [2]), ([0, 3], [0, 3]), ([], []), ([5], [5]), ([6, 3], [6]), ([4, 7], [4, 7]), ([], []), ([9], [9]), ([10, 7], [10]), ([8, 11], [8, 11]), ([12, 11, 0, 1, 2, 3, 4, 5, 6, 7, 8, 9, 10, 11, 12], [0, 12])])
def tenancyref14_Encode.B5 : List Nat := [0, 0, 2, 6, 15, 0, 32, 110, 255, 0, 512, 1774, 4095, 8191]
theorem tenancyref14_Encode.tab5 : rtab .any (opsOf Try.f13 5) = tenancyref14_Encode.T5 := by kernel_rfl
theorem tenancyref14_Encode.bits5 : waitsOk tenancyref14_Encode.T5.2 tenancyref14_Encode.B5 = true := by kernel_rfl
def tenancyref14_Encode.T6 : Bool × List (List Nat × List Nat) := (true, [([], []), ([], []), ([1], [1]), ([2], [2]), ([0, 3], [0, 3]), ([], []), ([5], [5]), ([6, 3], [6]), ([4, 7], [4, 7]), ([], []), ([9], [9]), ([10, 7], [10]), ([8, 11], [8, 11]), ([], []), ([13], [13]), ([14, 11], [14]), ([12, 15], [12, 15]), ([16, 15, 0, 1, 2, 3, 4, 5, 6, 7, 8, 9, 10, 11, 12, 13, 14, 15, 16], [0, 16])])
def tenancyref14_Encode.B6 : List Nat := [0, 0, 2, 6, 15, 0, 32, 110, 255, 0, 512, 1774, 4095, 0, 8192, 28398, 65535, 131071]
theorem tenancyref14_Encode.tab6 : rtab .any (opsOf Try.f13 6) = tenancyref14_Encode.T6 := by kernel_rfl
theorem tenancyref14_Encode.bits6 : waitsOk tenancyref14_Encode.T6.2 tenancyref14_Encode.B6 = true := by kernel_rfl
set_option maxHeartbeats 8000000 in
set_option maxRecDepth 100000 in
theorem tenancyref14_Encode.calls (k : Nat) (a0_0 : Int) (a0_1 : Int) (a0_2 : Int) (a0_3 : Int) (a0_4 : Int) (a0_5 : Int) (a0_6 : Int) (a0_7 : Int) (a0_8 : Int) (a0_9 : Int) (a0_10 : Int) (a0_11 : ByteArray) (a0_12 : ByteArray) (a0_13 : ByteArray) (A0_14 : Option Addr) (c0_14 : Nat) (l0_14 : List (S47)) (r1 : ByteArray) (r2 : Int) (w : World) (hr0_14 : Kd.C k47 w A0_14 l0_14.length l0_14) (hc0_14 : l0_14.length ≤ c0_14) (h : tenancyref14_Encode.f k a0_0 a0_1 a0_2 a0_3 a0_4 a0_5 a0_6 a0_7 a0_8 a0_9 a0_10 a0_11 a0_12 a0_13 l0_14 = some (r1, r2)) :
    Calls Try.prog 13 #[.agg #[.int .u8 a0_0, .int .u8 a0_1, .int .u8 a0_2, .int .u8 a0_3, .int .u32 a0_4, .int .u16 a0_5, .int .u16 a0_6, .int .u32 a0_7, .int .u32 a0_8, .int .u32 a0_9, .int .u32 a0_10, .string a0_11, .string a0_12, .string a0_13, .slice A0_14 l0_14.length c0_14]] w fun e w' => e = .returned (.tuple #[.string r1, .int .i64 r2]) ∧ Below w.heap.size w w' := by
  have hu26 := Try.underlying26
  have HR0_14 := Aside0.mk hr0_14
  have HC0_14 := Aside0.mk hc0_14
  clear hr0_14 hc0_14
  have HB := Aside0.mk (Below.refl w.heap.size w)
  have H : ((tenancyref14_Sound.f k a0_0 a0_1 a0_2 a0_3 a0_4 a0_5 a0_6 a0_7 a0_8 a0_9 a0_10 a0_11 a0_12 a0_13 l0_14).bind fun t251 => (if t251 = true then ((tenancyref13_Emit.f k l0_14).bind fun bt252 => ((some (([a0_0, a0_1, a0_2, a0_3] : List Int) : List Int)).bind fun y254 => ((tenancyref04_Put32.f k a0_4).bind fun t257 => (if (strOfNums y254).size + t257.size ≤ 9223372036854775807 then ((tenancyref04_Put16.f k a0_5).bind fun t258 => (if ((strOfNums y254) ++ t257).size + t258.size ≤ 9223372036854775807 then ((tenancyref04_Put16.f k a0_6).bind fun t259 => (if (((strOfNums y254) ++ t257) ++ t258).size + t259.size ≤ 9223372036854775807 then ((tenancyref04_Put32.f k a0_7).bind fun t260 => (if ((((strOfNums y254) ++ t257) ++ t258) ++ t259).size + t260.size ≤ 9223372036854775807 then ((tenancyref04_Put32.f k a0_8).bind fun t261 => (if (((((strOfNums y254) ++ t257) ++ t258) ++ t259) ++ t260).size + t261.size ≤ 9223372036854775807 then ((tenancyref04_Put32.f k a0_9).bind fun t262 => (if ((((((strOfNums y254) ++ t257) ++ t258) ++ t259) ++ t260) ++ t261).size + t262.size ≤ 9223372036854775807 then ((tenancyref04_Put32.f k a0_10).bind fun t263 => (if (((((((strOfNums y254) ++ t257) ++ t258) ++ t259) ++ t260) ++ t261) ++ t262).size + t263.size ≤ 9223372036854775807 then (if ((((((((strOfNums y254) ++ t257) ++ t258) ++ t259) ++ t260) ++ t261) ++ t262) ++ t263).size + a0_11.size ≤ 9223372036854775807 then (if (((((((((strOfNums y254) ++ t257) ++ t258) ++ t259) ++ t260) ++ t261) ++ t262) ++ t263) ++ a0_11).size + a0_12.size ≤ 9223372036854775807 then (if ((((((((((strOfNums y254) ++ t257) ++ t258) ++ t259) ++ t260) ++ t261) ++ t262) ++ t263) ++ a0_11) ++ a0_12).size + a0_13.size ≤ 9223372036854775807 then (if (((((((((((strOfNums y254) ++ t257) ++ t258) ++ t259) ++ t260) ++ t261) ++ t262) ++ t263) ++ a0_11) ++ a0_12) ++ a0_13).size + 4 ≤ 9223372036854775807 then (if ((((((((((((strOfNums y254) ++ t257) ++ t258) ++ t259) ++ t260) ++ t261) ++ t262) ++ t263) ++ a0_11) ++ a0_12) ++ a0_13) ++ (⟨#[99, 130, 83, 99]⟩ : ByteArray)).size + bt252.1.size ≤ 9223372036854775807 then (if ((((((((((((((strOfNums y254) ++ t257) ++ t258) ++ t259) ++ t260) ++ t261) ++ t262) ++ t263) ++ a0_11) ++ a0_12) ++ a0_13) ++ (⟨#[99, 130, 83, 99]⟩ : ByteArray)) ++ bt252.1).size : Int) > 65507 then (some ((⟨#[]⟩ : ByteArray), 6)) else (some (((((((((((((strOfNums y254) ++ t257) ++ t258) ++ t259) ++ t260) ++ t261) ++ t262) ++ t263) ++ a0_11) ++ a0_12) ++ a0_13) ++ (⟨#[99, 130, 83, 99]⟩ : ByteArray)) ++ bt252.1, 0))) else (none)) else (none)) else (none)) else (none)) else (none)) else (none))) else (none))) else (none))) else (none))) else (none))) else (none))) else (none))))) else (some ((⟨#[]⟩ : ByteArray), 141)))) = some (r1, r2) := h
  clear h
  replace H := Option.bind_eq_some_iff.mp H
  obtain ⟨t251, A20, H⟩ := H
  replace H : (if t251 = true then ((tenancyref13_Emit.f k l0_14).bind fun bt252 => ((some (([a0_0, a0_1, a0_2, a0_3] : List Int) : List Int)).bind fun y254 => ((tenancyref04_Put32.f k a0_4).bind fun t257 => (if (strOfNums y254).size + t257.size ≤ 9223372036854775807 then ((tenancyref04_Put16.f k a0_5).bind fun t258 => (if ((strOfNums y254) ++ t257).size + t258.size ≤ 9223372036854775807 then ((tenancyref04_Put16.f k a0_6).bind fun t259 => (if (((strOfNums y254) ++ t257) ++ t258).size + t259.size ≤ 9223372036854775807 then ((tenancyref04_Put32.f k a0_7).bind fun t260 => (if ((((strOfNums y254) ++ t257) ++ t258) ++ t259).size + t260.size ≤ 9223372036854775807 then ((tenancyref04_Put32.f k a0_8).bind fun t261 => (if (((((strOfNums y254) ++ t257) ++ t258) ++ t259) ++ t260).size + t261.size ≤ 9223372036854775807 then ((tenancyref04_Put32.f k a0_9).bind fun t262 => (if ((((((strOfNums y254) ++ t257) ++ t258) ++ t259) ++ t260) ++ t261).size + t262.size ≤ 9223372036854775807 then ((tenancyref04_Put32.f k a0_10).bind fun t263 => (if (((((((strOfNums y254) ++ t257) ++ t258) ++ t259) ++ t260) ++ t261) ++ t262).size + t263.size ≤ 9223372036854775807 then (if ((((((((strOfNums y254) ++ t257) ++ t258) ++ t259) ++ t260) ++ t261) ++ t262) ++ t263).size + a0_11.size ≤ 9223372036854775807 then (if (((((((((strOfNums y254) ++ t257) ++ t258) ++ t259) ++ t260) ++ t261) ++ t262) ++ t263) ++ a0_11).size + a0_12.size ≤ 9223372036854775807 then (if ((((((((((strOfNums y254) ++ t257) ++ t258) ++ t259) ++ t260) ++ t261) ++ t262) ++ t263) ++ a0_11) ++ a0_12).size + a0_13.size ≤ 9223372036854775807 then (if (((((((((((strOfNums y254) ++ t257) ++ t258) ++ t259) ++ t260) ++ t261) ++ t262) ++ t263) ++ a0_11) ++ a0_12) ++ a0_13).size + 4 ≤ 9223372036854775807 then (if ((((((((((((strOfNums y254) ++ t257) ++ t258) ++ t259) ++ t260) ++ t261) ++ t262) ++ t263) ++ a0_11) ++ a0_12) ++ a0_13) ++ (⟨#[99, 130, 83, 99]⟩ : ByteArray)).size + bt252.1.size ≤ 9223372036854775807 then (if ((((((((((((((strOfNums y254) ++ t257) ++ t258) ++ t259) ++ t260) ++ t261) ++ t262) ++ t263) ++ a0_11) ++ a0_12) ++ a0_13) ++ (⟨#[99, 130, 83, 99]⟩ : ByteArray)) ++ bt252.1).size : Int) > 65507 then (some ((⟨#[]⟩ : ByteArray), 6)) else (some (((((((((((((strOfNums y254) ++ t257) ++ t258) ++ t259) ++ t260) ++ t261) ++ t262) ++ t263) ++ a0_11) ++ a0_12) ++ a0_13) ++ (⟨#[99, 130, 83, 99]⟩ : ByteArray)) ++ bt252.1, 0))) else (none)) else (none)) else (none)) else (none)) else (none)) else (none))) else (none))) else (none))) else (none))) else (none))) else (none))) else (none))))) else (some ((⟨#[]⟩ : ByteArray), 141))) = some (r1, r2) := H
  have A2 := Aside0.mk A20
  clear A20
  by_cases c3 : t251 = true
  · subst c3
    have H1 : ((tenancyref13_Emit.f k l0_14).bind fun bt252 => ((some (([a0_0, a0_1, a0_2, a0_3] : List Int) : List Int)).bind fun y254 => ((tenancyref04_Put32.f k a0_4).bind fun t257 => (if (strOfNums y254).size + t257.size ≤ 9223372036854775807 then ((tenancyref04_Put16.f k a0_5).bind fun t258 => (if ((strOfNums y254) ++ t257).size + t258.size ≤ 9223372036854775807 then ((tenancyref04_Put16.f k a0_6).bind fun t259 => (if (((strOfNums y254) ++ t257) ++ t258).size + t259.size ≤ 9223372036854775807 then ((tenancyref04_Put32.f k a0_7).bind fun t260 => (if ((((strOfNums y254) ++ t257) ++ t258) ++ t259).size + t260.size ≤ 9223372036854775807 then ((tenancyref04_Put32.f k a0_8).bind fun t261 => (if (((((strOfNums y254) ++ t257) ++ t258) ++ t259) ++ t260).size + t261.size ≤ 9223372036854775807 then ((tenancyref04_Put32.f k a0_9).bind fun t262 => (if ((((((strOfNums y254) ++ t257) ++ t258) ++ t259) ++ t260) ++ t261).size + t262.size ≤ 9223372036854775807 then ((tenancyref04_Put32.f k a0_10).bind fun t263 => (if (((((((strOfNums y254) ++ t257) ++ t258) ++ t259) ++ t260) ++ t261) ++ t262).size + t263.size ≤ 9223372036854775807 then (if ((((((((strOfNums y254) ++ t257) ++ t258) ++ t259) ++ t260) ++ t261) ++ t262) ++ t263).size + a0_11.size ≤ 9223372036854775807 then (if (((((((((strOfNums y254) ++ t257) ++ t258) ++ t259) ++ t260) ++ t261) ++ t262) ++ t263) ++ a0_11).size + a0_12.size ≤ 9223372036854775807 then (if ((((((((((strOfNums y254) ++ t257) ++ t258) ++ t259) ++ t260) ++ t261) ++ t262) ++ t263) ++ a0_11) ++ a0_12).size + a0_13.size ≤ 9223372036854775807 then (if (((((((((((strOfNums y254) ++ t257) ++ t258) ++ t259) ++ t260) ++ t261) ++ t262) ++ t263) ++ a0_11) ++ a0_12) ++ a0_13).size + 4 ≤ 9223372036854775807 then (if ((((((((((((strOfNums y254) ++ t257) ++ t258) ++ t259) ++ t260) ++ t261) ++ t262) ++ t263) ++ a0_11) ++ a0_12) ++ a0_13) ++ (⟨#[99, 130, 83, 99]⟩ : ByteArray)).size + bt252.1.size ≤ 9223372036854775807 then (if ((((((((((((((strOfNums y254) ++ t257) ++ t258) ++ t259) ++ t260) ++ t261) ++ t262) ++ t263) ++ a0_11) ++ a0_12) ++ a0_13) ++ (⟨#[99, 130, 83, 99]⟩ : ByteArray)) ++ bt252.1).size : Int) > 65507 then (some ((⟨#[]⟩ : ByteArray), 6)) else (some (((((((((((((strOfNums y254) ++ t257) ++ t258) ++ t259) ++ t260) ++ t261) ++ t262) ++ t263) ++ a0_11) ++ a0_12) ++ a0_13) ++ (⟨#[99, 130, 83, 99]⟩ : ByteArray)) ++ bt252.1, 0))) else (none)) else (none)) else (none)) else (none)) else (none)) else (none))) else (none))) else (none))) else (none))) else (none))) else (none))) else (none))))) = some (r1, r2) := by rw [if_pos rfl] at H; exact H
    clear H
    have H := H1
    clear H1
    replace H := Option.bind_eq_some_iff.mp H
    obtain ⟨⟨t252, t253⟩, A40, H⟩ := H
    replace H : ((some (([a0_0, a0_1, a0_2, a0_3] : List Int) : List Int)).bind fun y254 => ((tenancyref04_Put32.f k a0_4).bind fun t257 => (if (strOfNums y254).size + t257.size ≤ 9223372036854775807 then ((tenancyref04_Put16.f k a0_5).bind fun t258 => (if ((strOfNums y254) ++ t257).size + t258.size ≤ 9223372036854775807 then ((tenancyref04_Put16.f k a0_6).bind fun t259 => (if (((strOfNums y254) ++ t257) ++ t258).size + t259.size ≤ 9223372036854775807 then ((tenancyref04_Put32.f k a0_7).bind fun t260 => (if ((((strOfNums y254) ++ t257) ++ t258) ++ t259).size + t260.size ≤ 9223372036854775807 then ((tenancyref04_Put32.f k a0_8).bind fun t261 => (if (((((strOfNums y254) ++ t257) ++ t258) ++ t259) ++ t260).size + t261.size ≤ 9223372036854775807 then ((tenancyref04_Put32.f k a0_9).bind fun t262 => (if ((((((strOfNums y254) ++ t257) ++ t258) ++ t259) ++ t260) ++ t261).size + t262.size ≤ 9223372036854775807 then ((tenancyref04_Put32.f k a0_10).bind fun t263 => (if (((((((strOfNums y254) ++ t257) ++ t258) ++ t259) ++ t260) ++ t261) ++ t262).size + t263.size ≤ 9223372036854775807 then (if ((((((((strOfNums y254) ++ t257) ++ t258) ++ t259) ++ t260) ++ t261) ++ t262) ++ t263).size + a0_11.size ≤ 9223372036854775807 then (if (((((((((strOfNums y254) ++ t257) ++ t258) ++ t259) ++ t260) ++ t261) ++ t262) ++ t263) ++ a0_11).size + a0_12.size ≤ 9223372036854775807 then (if ((((((((((strOfNums y254) ++ t257) ++ t258) ++ t259) ++ t260) ++ t261) ++ t262) ++ t263) ++ a0_11) ++ a0_12).size + a0_13.size ≤ 9223372036854775807 then (if (((((((((((strOfNums y254) ++ t257) ++ t258) ++ t259) ++ t260) ++ t261) ++ t262) ++ t263) ++ a0_11) ++ a0_12) ++ a0_13).size + 4 ≤ 9223372036854775807 then (if ((((((((((((strOfNums y254) ++ t257) ++ t258) ++ t259) ++ t260) ++ t261) ++ t262) ++ t263) ++ a0_11) ++ a0_12) ++ a0_13) ++ (⟨#[99, 130, 83, 99]⟩ : ByteArray)).size + t252.size ≤ 9223372036854775807 then (if ((((((((((((((strOfNums y254) ++ t257) ++ t258) ++ t259) ++ t260) ++ t261) ++ t262) ++ t263) ++ a0_11) ++ a0_12) ++ a0_13) ++ (⟨#[99, 130, 83, 99]⟩ : ByteArray)) ++ t252).size : Int) > 65507 then (some ((⟨#[]⟩ : ByteArray), 6)) else (some (((((((((((((strOfNums y254) ++ t257) ++ t258) ++ t259) ++ t260) ++ t261) ++ t262) ++ t263) ++ a0_11) ++ a0_12) ++ a0_13) ++ (⟨#[99, 130, 83, 99]⟩ : ByteArray)) ++ t252, 0))) else (none)) else (none)) else (none)) else (none)) else (none)) else (none))) else (none))) else (none))) else (none))) else (none))) else (none))) else (none)))) = some (r1, r2) := H
    have A4 := Aside0.mk A40
    clear A40
    obtain ⟨y254, hy254⟩ : ∃ y_ : List Int, y_ = (([a0_0, a0_1, a0_2, a0_3] : List Int)) := ⟨_, rfl⟩
    replace H : ((tenancyref04_Put32.f k a0_4).bind fun t257 => (if (strOfNums y254).size + t257.size ≤ 9223372036854775807 then ((tenancyref04_Put16.f k a0_5).bind fun t258 => (if ((strOfNums y254) ++ t257).size + t258.size ≤ 9223372036854775807 then ((tenancyref04_Put16.f k a0_6).bind fun t259 => (if (((strOfNums y254) ++ t257) ++ t258).size + t259.size ≤ 9223372036854775807 then ((tenancyref04_Put32.f k a0_7).bind fun t260 => (if ((((strOfNums y254) ++ t257) ++ t258) ++ t259).size + t260.size ≤ 9223372036854775807 then ((tenancyref04_Put32.f k a0_8).bind fun t261 => (if (((((strOfNums y254) ++ t257) ++ t258) ++ t259) ++ t260).size + t261.size ≤ 9223372036854775807 then ((tenancyref04_Put32.f k a0_9).bind fun t262 => (if ((((((strOfNums y254) ++ t257) ++ t258) ++ t259) ++ t260) ++ t261).size + t262.size ≤ 9223372036854775807 then ((tenancyref04_Put32.f k a0_10).bind fun t263 => (if (((((((strOfNums y254) ++ t257) ++ t258) ++ t259) ++ t260) ++ t261) ++ t262).size + t263.size ≤ 9223372036854775807 then (if ((((((((strOfNums y254) ++ t257) ++ t258) ++ t259) ++ t260) ++ t261) ++ t262) ++ t263).size + a0_11.size ≤ 9223372036854775807 then (if (((((((((strOfNums y254) ++ t257) ++ t258) ++ t259) ++ t260) ++ t261) ++ t262) ++ t263) ++ a0_11).size + a0_12.size ≤ 9223372036854775807 then (if ((((((((((strOfNums y254) ++ t257) ++ t258) ++ t259) ++ t260) ++ t261) ++ t262) ++ t263) ++ a0_11) ++ a0_12).size + a0_13.size ≤ 9223372036854775807 then (if (((((((((((strOfNums y254) ++ t257) ++ t258) ++ t259) ++ t260) ++ t261) ++ t262) ++ t263) ++ a0_11) ++ a0_12) ++ a0_13).size + 4 ≤ 9223372036854775807 then (if ((((((((((((strOfNums y254) ++ t257) ++ t258) ++ t259) ++ t260) ++ t261) ++ t262) ++ t263) ++ a0_11) ++ a0_12) ++ a0_13) ++ (⟨#[99, 130, 83, 99]⟩ : ByteArray)).size + t252.size ≤ 9223372036854775807 then (if ((((((((((((((strOfNums y254) ++ t257) ++ t258) ++ t259) ++ t260) ++ t261) ++ t262) ++ t263) ++ a0_11) ++ a0_12) ++ a0_13) ++ (⟨#[99, 130, 83, 99]⟩ : ByteArray)) ++ t252).size : Int) > 65507 then (some ((⟨#[]⟩ : ByteArray), 6)) else (some (((((((((((((strOfNums y254) ++ t257) ++ t258) ++ t259) ++ t260) ++ t261) ++ t262) ++ t263) ++ a0_11) ++ a0_12) ++ a0_13) ++ (⟨#[99, 130, 83, 99]⟩ : ByteArray)) ++ t252, 0))) else (none)) else (none)) else (none)) else (none)) else (none)) else (none))) else (none))) else (none))) else (none))) else (none))) else (none))) else (none))) = some (r1, r2) := by first | (rw [hy254]; with_reducible exact H) | (have H2_ := (Option.bind_some _ _).symm.trans H; rw [hy254]; with_reducible exact H2_) | (have H2_ := (Option.bind_some _ _).symm.trans H; with_reducible exact H2_) | with_reducible exact H | (rw [hy254]; exact H) | exact H
    have Ny254 := Aside0.mk hy254
    clear hy254
    replace H := Option.bind_eq_some_iff.mp H
    obtain ⟨t257, A50, H⟩ := H
    replace H : (if (strOfNums y254).size + t257.size ≤ 9223372036854775807 then ((tenancyref04_Put16.f k a0_5).bind fun t258 => (if ((strOfNums y254) ++ t257).size + t258.size ≤ 9223372036854775807 then ((tenancyref04_Put16.f k a0_6).bind fun t259 => (if (((strOfNums y254) ++ t257) ++ t258).size + t259.size ≤ 9223372036854775807 then ((tenancyref04_Put32.f k a0_7).bind fun t260 => (if ((((strOfNums y254) ++ t257) ++ t258) ++ t259).size + t260.size ≤ 9223372036854775807 then ((tenancyref04_Put32.f k a0_8).bind fun t261 => (if (((((strOfNums y254) ++ t257) ++ t258) ++ t259) ++ t260).size + t261.size ≤ 9223372036854775807 then ((tenancyref04_Put32.f k a0_9).bind fun t262 => (if ((((((strOfNums y254) ++ t257) ++ t258) ++ t259) ++ t260) ++ t261).size + t262.size ≤ 9223372036854775807 then ((tenancyref04_Put32.f k a0_10).bind fun t263 => (if (((((((strOfNums y254) ++ t257) ++ t258) ++ t259) ++ t260) ++ t261) ++ t262).size + t263.size ≤ 9223372036854775807 then (if ((((((((strOfNums y254) ++ t257) ++ t258) ++ t259) ++ t260) ++ t261) ++ t262) ++ t263).size + a0_11.size ≤ 9223372036854775807 then (if (((((((((strOfNums y254) ++ t257) ++ t258) ++ t259) ++ t260) ++ t261) ++ t262) ++ t263) ++ a0_11).size + a0_12.size ≤ 9223372036854775807 then (if ((((((((((strOfNums y254) ++ t257) ++ t258) ++ t259) ++ t260) ++ t261) ++ t262) ++ t263) ++ a0_11) ++ a0_12).size + a0_13.size ≤ 9223372036854775807 then (if (((((((((((strOfNums y254) ++ t257) ++ t258) ++ t259) ++ t260) ++ t261) ++ t262) ++ t263) ++ a0_11) ++ a0_12) ++ a0_13).size + 4 ≤ 9223372036854775807 then (if ((((((((((((strOfNums y254) ++ t257) ++ t258) ++ t259) ++ t260) ++ t261) ++ t262) ++ t263) ++ a0_11) ++ a0_12) ++ a0_13) ++ (⟨#[99, 130, 83, 99]⟩ : ByteArray)).size + t252.size ≤ 9223372036854775807 then (if ((((((((((((((strOfNums y254) ++ t257) ++ t258) ++ t259) ++ t260) ++ t261) ++ t262) ++ t263) ++ a0_11) ++ a0_12) ++ a0_13) ++ (⟨#[99, 130, 83, 99]⟩ : ByteArray)) ++ t252).size : Int) > 65507 then (some ((⟨#[]⟩ : ByteArray), 6)) else (some (((((((((((((strOfNums y254) ++ t257) ++ t258) ++ t259) ++ t260) ++ t261) ++ t262) ++ t263) ++ a0_11) ++ a0_12) ++ a0_13) ++ (⟨#[99, 130, 83, 99]⟩ : ByteArray)) ++ t252, 0))) else (none)) else (none)) else (none)) else (none)) else (none)) else (none))) else (none))) else (none))) else (none))) else (none))) else (none))) else (none)) = some (r1, r2) := H
    have A5 := Aside0.mk A50
    clear A50
    by_cases c6 : (strOfNums y254).size + t257.size ≤ 9223372036854775807
    · rw [if_pos c6] at H
      have c6b0 := eq_true c6
      have c6b1 : decide ((strOfNums y254).size + t257.size ≤ 9223372036854775807) = true := decide_eq_true c6
      try have c6b2 : (9223372036854775807 < (strOfNums y254).size + t257.size) = False := eq_false (Nat.not_lt.2 c6)
      replace H := Option.bind_eq_some_iff.mp H
      obtain ⟨t258, A70, H⟩ := H
      replace H : (if ((strOfNums y254) ++ t257).size + t258.size ≤ 9223372036854775807 then ((tenancyref04_Put16.f k a0_6).bind fun t259 => (if (((strOfNums y254) ++ t257) ++ t258).size + t259.size ≤ 9223372036854775807 then ((tenancyref04_Put32.f k a0_7).bind fun t260 => (if ((((strOfNums y254) ++ t257) ++ t258) ++ t259).size + t260.size ≤ 9223372036854775807 then ((tenancyref04_Put32.f k a0_8).bind fun t261 => (if (((((strOfNums y254) ++ t257) ++ t258) ++ t259) ++ t260).size + t261.size ≤ 9223372036854775807 then ((tenancyref04_Put32.f k a0_9).bind fun t262 => (if ((((((strOfNums y254) ++ t257) ++ t258) ++ t259) ++ t260) ++ t261).size + t262.size ≤ 9223372036854775807 then ((tenancyref04_Put32.f k a0_10).bind fun t263 => (if (((((((strOfNums y254) ++ t257) ++ t258) ++ t259) ++ t260) ++ t261) ++ t262).size + t263.size ≤ 9223372036854775807 then (if ((((((((strOfNums y254) ++ t257) ++ t258) ++ t259) ++ t260) ++ t261) ++ t262) ++ t263).size + a0_11.size ≤ 9223372036854775807 then (if (((((((((strOfNums y254) ++ t257) ++ t258) ++ t259) ++ t260) ++ t261) ++ t262) ++ t263) ++ a0_11).size + a0_12.size ≤ 9223372036854775807 then (if ((((((((((strOfNums y254) ++ t257) ++ t258) ++ t259) ++ t260) ++ t261) ++ t262) ++ t263) ++ a0_11) ++ a0_12).size + a0_13.size ≤ 9223372036854775807 then (if (((((((((((strOfNums y254) ++ t257) ++ t258) ++ t259) ++ t260) ++ t261) ++ t262) ++ t263) ++ a0_11) ++ a0_12) ++ a0_13).size + 4 ≤ 9223372036854775807 then (if ((((((((((((strOfNums y254) ++ t257) ++ t258) ++ t259) ++ t260) ++ t261) ++ t262) ++ t263) ++ a0_11) ++ a0_12) ++ a0_13) ++ (⟨#[99, 130, 83, 99]⟩ : ByteArray)).size + t252.size ≤ 9223372036854775807 then (if ((((((((((((((strOfNums y254) ++ t257) ++ t258) ++ t259) ++ t260) ++ t261) ++ t262) ++ t263) ++ a0_11) ++ a0_12) ++ a0_13) ++ (⟨#[99, 130, 83, 99]⟩ : ByteArray)) ++ t252).size : Int) > 65507 then (some ((⟨#[]⟩ : ByteArray), 6)) else (some (((((((((((((strOfNums y254) ++ t257) ++ t258) ++ t259) ++ t260) ++ t261) ++ t262) ++ t263) ++ a0_11) ++ a0_12) ++ a0_13) ++ (⟨#[99, 130, 83, 99]⟩ : ByteArray)) ++ t252, 0))) else (none)) else (none)) else (none)) else (none)) else (none)) else (none))) else (none))) else (none))) else (none))) else (none))) else (none)) = some (r1, r2) := H
      have A7 := Aside0.mk A70
      clear A70
      by_cases c8 : ((strOfNums y254) ++ t257).size + t258.size ≤ 9223372036854775807
      · rw [if_pos c8] at H
        have c8b0 := eq_true c8
        have c8b1 : decide (((strOfNums y254) ++ t257).size + t258.size ≤ 9223372036854775807) = true := decide_eq_true c8
        try have c8b2 : (9223372036854775807 < ((strOfNums y254) ++ t257).size + t258.size) = False := eq_false (Nat.not_lt.2 c8)
        (try (have c8b2a := c8b2; simp only [ByteArray.size_append] at c8b2a))
        replace H := Option.bind_eq_some_iff.mp H
        obtain ⟨t259, A90, H⟩ := H
        replace H : (if (((strOfNums y254) ++ t257) ++ t258).size + t259.size ≤ 9223372036854775807 then ((tenancyref04_Put32.f k a0_7).bind fun t260 => (if ((((strOfNums y254) ++ t257) ++ t258) ++ t259).size + t260.size ≤ 9223372036854775807 then ((tenancyref04_Put32.f k a0_8).bind fun t261 => (if (((((strOfNums y254) ++ t257) ++ t258) ++ t259) ++ t260).size + t261.size ≤ 9223372036854775807 then ((tenancyref04_Put32.f k a0_9).bind fun t262 => (if ((((((strOfNums y254) ++ t257) ++ t258) ++ t259) ++ t260) ++ t261).size + t262.size ≤ 9223372036854775807 then ((tenancyref04_Put32.f k a0_10).bind fun t263 => (if (((((((strOfNums y254) ++ t257) ++ t258) ++ t259) ++ t260) ++ t261) ++ t262).size + t263.size ≤ 9223372036854775807 then (if ((((((((strOfNums y254) ++ t257) ++ t258) ++ t259) ++ t260) ++ t261) ++ t262) ++ t263).size + a0_11.size ≤ 9223372036854775807 then (if (((((((((strOfNums y254) ++ t257) ++ t258) ++ t259) ++ t260) ++ t261) ++ t262) ++ t263) ++ a0_11).size + a0_12.size ≤ 9223372036854775807 then (if ((((((((((strOfNums y254) ++ t257) ++ t258) ++ t259) ++ t260) ++ t261) ++ t262) ++ t263) ++ a0_11) ++ a0_12).size + a0_13.size ≤ 9223372036854775807 then (if (((((((((((strOfNums y254) ++ t257) ++ t258) ++ t259) ++ t260) ++ t261) ++ t262) ++ t263) ++ a0_11) ++ a0_12) ++ a0_13).size + 4 ≤ 9223372036854775807 then (if ((((((((((((strOfNums y254) ++ t257) ++ t258) ++ t259) ++ t260) ++ t261) ++ t262) ++ t263) ++ a0_11) ++ a0_12) ++ a0_13) ++ (⟨#[99, 130, 83, 99]⟩ : ByteArray)).size + t252.size ≤ 9223372036854775807 then (if ((((((((((((((strOfNums y254) ++ t257) ++ t258) ++ t259) ++ t260) ++ t261) ++ t262) ++ t263) ++ a0_11) ++ a0_12) ++ a0_13) ++ (⟨#[99, 130, 83, 99]⟩ : ByteArray)) ++ t252).size : Int) > 65507 then (some ((⟨#[]⟩ : ByteArray), 6)) else (some (((((((((((((strOfNums y254) ++ t257) ++ t258) ++ t259) ++ t260) ++ t261) ++ t262) ++ t263) ++ a0_11) ++ a0_12) ++ a0_13) ++ (⟨#[99, 130, 83, 99]⟩ : ByteArray)) ++ t252, 0))) else (none)) else (none)) else (none)) else (none)) else (none)) else (none))) else (none))) else (none))) else (none))) else (none)) = some (r1, r2) := H
        have A9 := Aside0.mk A90
        clear A90
        by_cases c10 : (((strOfNums y254) ++ t257) ++ t258).size + t259.size ≤ 9223372036854775807
        · rw [if_pos c10] at H
          have c10b0 := eq_true c10
          have c10b1 : decide ((((strOfNums y254) ++ t257) ++ t258).size + t259.size ≤ 9223372036854775807) = true := decide_eq_true c10
          try have c10b2 : (9223372036854775807 < (((strOfNums y254) ++ t257) ++ t258).size + t259.size) = False := eq_false (Nat.not_lt.2 c10)
          (try (have c10b2a := c10b2; simp only [ByteArray.size_append] at c10b2a))
          replace H := Option.bind_eq_some_iff.mp H
          obtain ⟨t260, A110, H⟩ := H
          replace H : (if ((((strOfNums y254) ++ t257) ++ t258) ++ t259).size + t260.size ≤ 9223372036854775807 then ((tenancyref04_Put32.f k a0_8).bind fun t261 => (if (((((strOfNums y254) ++ t257) ++ t258) ++ t259) ++ t260).size + t261.size ≤ 9223372036854775807 then ((tenancyref04_Put32.f k a0_9).bind fun t262 => (if ((((((strOfNums y254) ++ t257) ++ t258) ++ t259) ++ t260) ++ t261).size + t262.size ≤ 9223372036854775807 then ((tenancyref04_Put32.f k a0_10).bind fun t263 => (if (((((((strOfNums y254) ++ t257) ++ t258) ++ t259) ++ t260) ++ t261) ++ t262).size + t263.size ≤ 9223372036854775807 then (if ((((((((strOfNums y254) ++ t257) ++ t258) ++ t259) ++ t260) ++ t261) ++ t262) ++ t263).size + a0_11.size ≤ 9223372036854775807 then (if (((((((((strOfNums y254) ++ t257) ++ t258) ++ t259) ++ t260) ++ t261) ++ t262) ++ t263) ++ a0_11).size + a0_12.size ≤ 9223372036854775807 then (if ((((((((((strOfNums y254) ++ t257) ++ t258) ++ t259) ++ t260) ++ t261) ++ t262) ++ t263) ++ a0_11) ++ a0_12).size + a0_13.size ≤ 9223372036854775807 then (if (((((((((((strOfNums y254) ++ t257) ++ t258) ++ t259) ++ t260) ++ t261) ++ t262) ++ t263) ++ a0_11) ++ a0_12) ++ a0_13).size + 4 ≤ 9223372036854775807 then (if ((((((((((((strOfNums y254) ++ t257) ++ t258) ++ t259) ++ t260) ++ t261) ++ t262) ++ t263) ++ a0_11) ++ a0_12) ++ a0_13) ++ (⟨#[99, 130, 83, 99]⟩ : ByteArray)).size + t252.size ≤ 9223372036854775807 then (if ((((((((((((((strOfNums y254) ++ t257) ++ t258) ++ t259) ++ t260) ++ t261) ++ t262) ++ t263) ++ a0_11) ++ a0_12) ++ a0_13) ++ (⟨#[99, 130, 83, 99]⟩ : ByteArray)) ++ t252).size : Int) > 65507 then (some ((⟨#[]⟩ : ByteArray), 6)) else (some (((((((((((((strOfNums y254) ++ t257) ++ t258) ++ t259) ++ t260) ++ t261) ++ t262) ++ t263) ++ a0_11) ++ a0_12) ++ a0_13) ++ (⟨#[99, 130, 83, 99]⟩ : ByteArray)) ++ t252, 0))) else (none)) else (none)) else (none)) else (none)) else (none)) else (none))) else (none))) else (none))) else (none)) = some (r1, r2) := H
          have A11 := Aside0.mk A110
          clear A110
          by_cases c12 : ((((strOfNums y254) ++ t257) ++ t258) ++ t259).size + t260.size ≤ 9223372036854775807
          · rw [if_pos c12] at H
            have c12b0 := eq_true c12
            have c12b1 : decide (((((strOfNums y254) ++ t257) ++ t258) ++ t259).size + t260.size ≤ 9223372036854775807) = true := decide_eq_true c12
            try have c12b2 : (9223372036854775807 < ((((strOfNums y254) ++ t257) ++ t258) ++ t259).size + t260.size) = False := eq_false (Nat.not_lt.2 c12)
            (try (have c12b2a := c12b2; simp only [ByteArray.size_append] at c12b2a))
            replace H := Option.bind_eq_some_iff.mp H
            obtain ⟨t261, A130, H⟩ := H
            replace H : (if (((((strOfNums y254) ++ t257) ++ t258) ++ t259) ++ t260).size + t261.size ≤ 9223372036854775807 then ((tenancyref04_Put32.f k a0_9).bind fun t262 => (if ((((((strOfNums y254) ++ t257) ++ t258) ++ t259) ++ t260) ++ t261).size + t262.size ≤ 9223372036854775807 then ((tenancyref04_Put32.f k a0_10).bind fun t263 => (if (((((((strOfNums y254) ++ t257) ++ t258) ++ t259) ++ t260) ++ t261) ++ t262).size + t263.size ≤ 9223372036854775807 then (if ((((((((strOfNums y254) ++ t257) ++ t258) ++ t259) ++ t260) ++ t261) ++ t262) ++ t263).size + a0_11.size ≤ 9223372036854775807 then (if (((((((((strOfNums y254) ++ t257) ++ t258) ++ t259) ++ t260) ++ t261) ++ t262) ++ t263) ++ a0_11).size + a0_12.size ≤ 9223372036854775807 then (if ((((((((((strOfNums y254) ++ t257) ++ t258) ++ t259) ++ t260) ++ t261) ++ t262) ++ t263) ++ a0_11) ++ a0_12).size + a0_13.size ≤ 9223372036854775807 then (if (((((((((((strOfNums y254) ++ t257) ++ t258) ++ t259) ++ t260) ++ t261) ++ t262) ++ t263) ++ a0_11) ++ a0_12) ++ a0_13).size + 4 ≤ 9223372036854775807 then (if ((((((((((((strOfNums y254) ++ t257) ++ t258) ++ t259) ++ t260) ++ t261) ++ t262) ++ t263) ++ a0_11) ++ a0_12) ++ a0_13) ++ (⟨#[99, 130, 83, 99]⟩ : ByteArray)).size + t252.size ≤ 9223372036854775807 then (if ((((((((((((((strOfNums y254) ++ t257) ++ t258) ++ t259) ++ t260) ++ t261) ++ t262) ++ t263) ++ a0_11) ++ a0_12) ++ a0_13) ++ (⟨#[99, 130, 83, 99]⟩ : ByteArray)) ++ t252).size : Int) > 65507 then (some ((⟨#[]⟩ : ByteArray), 6)) else (some (((((((((((((strOfNums y254) ++ t257) ++ t258) ++ t259) ++ t260) ++ t261) ++ t262) ++ t263) ++ a0_11) ++ a0_12) ++ a0_13) ++ (⟨#[99, 130, 83, 99]⟩ : ByteArray)) ++ t252, 0))) else (none)) else (none)) else (none)) else (none)) else (none)) else (none))) else (none))) else (none)) = some (r1, r2) := H
            have A13 := Aside0.mk A130
            clear A130
            by_cases c14 : (((((strOfNums y254) ++ t257) ++ t258) ++ t259) ++ t260).size + t261.size ≤ 9223372036854775807
            · rw [if_pos c14] at H
              have c14b0 := eq_true c14
              have c14b1 : decide ((((((strOfNums y254) ++ t257) ++ t258) ++ t259) ++ t260).size + t261.size ≤ 9223372036854775807) = true := decide_eq_true c14
              try have c14b2 : (9223372036854775807 < (((((strOfNums y254) ++ t257) ++ t258) ++ t259) ++ t260).size + t261.size) = False := eq_false (Nat.not_lt.2 c14)
              (try (have c14b2a := c14b2; simp only [ByteArray.size_append] at c14b2a))
              replace H := Option.bind_eq_some_iff.mp H
              obtain ⟨t262, A150, H⟩ := H
              replace H : (if ((((((strOfNums y254) ++ t257) ++ t258) ++ t259) ++ t260) ++ t261).size + t262.size ≤ 9223372036854775807 then ((tenancyref04_Put32.f k a0_10).bind fun t263 => (if (((((((strOfNums y254) ++ t257) ++ t258) ++ t259) ++ t260) ++ t261) ++ t262).size + t263.size ≤ 9223372036854775807 then (if ((((((((strOfNums y254) ++ t257) ++ t258) ++ t259) ++ t260) ++ t261) ++ t262) ++ t263).size + a0_11.size ≤ 9223372036854775807 then (if (((((((((strOfNums y254) ++ t257) ++ t258) ++ t259) ++ t260) ++ t261) ++ t262) ++ t263) ++ a0_11).size + a0_12.size ≤ 9223372036854775807 then (if ((((((((((strOfNums y254) ++ t257) ++ t258) ++ t259) ++ t260) ++ t261) ++ t262) ++ t263) ++ a0_11) ++ a0_12).size + a0_13.size ≤ 9223372036854775807 then (if (((((((((((strOfNums y254) ++ t257) ++ t258) ++ t259) ++ t260) ++ t261) ++ t262) ++ t263) ++ a0_11) ++ a0_12) ++ a0_13).size + 4 ≤ 9223372036854775807 then (if ((((((((((((strOfNums y254) ++ t257) ++ t258) ++ t259) ++ t260) ++ t261) ++ t262) ++ t263) ++ a0_11) ++ a0_12) ++ a0_13) ++ (⟨#[99, 130, 83, 99]⟩ : ByteArray)).size + t252.size ≤ 9223372036854775807 then (if ((((((((((((((strOfNums y254) ++ t257) ++ t258) ++ t259) ++ t260) ++ t261) ++ t262) ++ t263) ++ a0_11) ++ a0_12) ++ a0_13) ++ (⟨#[99, 130, 83, 99]⟩ : ByteArray)) ++ t252).size : Int) > 65507 then (some ((⟨#[]⟩ : ByteArray), 6)) else (some (((((((((((((strOfNums y254) ++ t257) ++ t258) ++ t259) ++ t260) ++ t261) ++ t262) ++ t263) ++ a0_11) ++ a0_12) ++ a0_13) ++ (⟨#[99, 130, 83, 99]⟩ : ByteArray)) ++ t252, 0))) else (none)) else (none)) else (none)) else (none)) else (none)) else (none))) else (none)) = some (r1, r2) := H
              have A15 := Aside0.mk A150
              clear A150
              by_cases c16 : ((((((strOfNums y254) ++ t257) ++ t258) ++ t259) ++ t260) ++ t261).size + t262.size ≤ 9223372036854775807
              · rw [if_pos c16] at H
                have c16b0 := eq_true c16
                have c16b1 : decide (((((((strOfNums y254) ++ t257) ++ t258) ++ t259) ++ t260) ++ t261).size + t262.size ≤ 9223372036854775807) = true := decide_eq_true c16
                try have c16b2 : (9223372036854775807 < ((((((strOfNums y254) ++ t257) ++ t258) ++ t259) ++ t260) ++ t261).size + t262.size) = False := eq_false (Nat.not_lt.2 c16)
                (try (have c16b2a := c16b2; simp only [ByteArray.size_append] at c16b2a))
                replace H := Option.bind_eq_some_iff.mp H
                obtain ⟨t263, A170, H⟩ := H
                replace H : (if (((((((strOfNums y254) ++ t257) ++ t258) ++ t259) ++ t260) ++ t261) ++ t262).size + t263.size ≤ 9223372036854775807 then (if ((((((((strOfNums y254) ++ t257) ++ t258) ++ t259) ++ t260) ++ t261) ++ t262) ++ t263).size + a0_11.size ≤ 9223372036854775807 then (if (((((((((strOfNums y254) ++ t257) ++ t258) ++ t259) ++ t260) ++ t261) ++ t262) ++ t263) ++ a0_11).size + a0_12.size ≤ 9223372036854775807 then (if ((((((((((strOfNums y254) ++ t257) ++ t258) ++ t259) ++ t260) ++ t261) ++ t262) ++ t263) ++ a0_11) ++ a0_12).size + a0_13.size ≤ 9223372036854775807 then (if (((((((((((strOfNums y254) ++ t257) ++ t258) ++ t259) ++ t260) ++ t261) ++ t262) ++ t263) ++ a0_11) ++ a0_12) ++ a0_13).size + 4 ≤ 9223372036854775807 then (if ((((((((((((strOfNums y254) ++ t257) ++ t258) ++ t259) ++ t260) ++ t261) ++ t262) ++ t263) ++ a0_11) ++ a0_12) ++ a0_13) ++ (⟨#[99, 130, 83, 99]⟩ : ByteArray)).size + t252.size ≤ 9223372036854775807 then (if ((((((((((((((strOfNums y254) ++ t257) ++ t258) ++ t259) ++ t260) ++ t261) ++ t262) ++ t263) ++ a0_11) ++ a0_12) ++ a0_13) ++ (⟨#[99, 130, 83, 99]⟩ : ByteArray)) ++ t252).size : Int) > 65507 then (some ((⟨#[]⟩ : ByteArray), 6)) else (some (((((((((((((strOfNums y254) ++ t257) ++ t258) ++ t259) ++ t260) ++ t261) ++ t262) ++ t263) ++ a0_11) ++ a0_12) ++ a0_13) ++ (⟨#[99, 130, 83, 99]⟩ : ByteArray)) ++ t252, 0))) else (none)) else (none)) else (none)) else (none)) else (none)) else (none)) = some (r1, r2) := H
                have A17 := Aside0.mk A170
                clear A170
                by_cases c18 : (((((((strOfNums y254) ++ t257) ++ t258) ++ t259) ++ t260) ++ t261) ++ t262).size + t263.size ≤ 9223372036854775807
                · rw [if_pos c18] at H
                  have c18b0 := eq_true c18
                  have c18b1 : decide ((((((((strOfNums y254) ++ t257) ++ t258) ++ t259) ++ t260) ++ t261) ++ t262).size + t263.size ≤ 9223372036854775807) = true := decide_eq_true c18
                  try have c18b2 : (9223372036854775807 < (((((((strOfNums y254) ++ t257) ++ t258) ++ t259) ++ t260) ++ t261) ++ t262).size + t263.size) = False := eq_false (Nat.not_lt.2 c18)
                  (try (have c18b2a := c18b2; simp only [ByteArray.size_append] at c18b2a))
                  by_cases c19 : ((((((((strOfNums y254) ++ t257) ++ t258) ++ t259) ++ t260) ++ t261) ++ t262) ++ t263).size + a0_11.size ≤ 9223372036854775807
                  · rw [if_pos c19] at H
                    have c19b0 := eq_true c19
                    have c19b1 : decide (((((((((strOfNums y254) ++ t257) ++ t258) ++ t259) ++ t260) ++ t261) ++ t262) ++ t263).size + a0_11.size ≤ 9223372036854775807) = true := decide_eq_true c19
                    try have c19b2 : (9223372036854775807 < ((((((((strOfNums y254) ++ t257) ++ t258) ++ t259) ++ t260) ++ t261) ++ t262) ++ t263).size + a0_11.size) = False := eq_false (Nat.not_lt.2 c19)
                    (try (have c19b2a := c19b2; simp only [ByteArray.size_append] at c19b2a))
                    by_cases c20 : (((((((((strOfNums y254) ++ t257) ++ t258) ++ t259) ++ t260) ++ t261) ++ t262) ++ t263) ++ a0_11).size + a0_12.size ≤ 9223372036854775807
                    · rw [if_pos c20] at H
                      have c20b0 := eq_true c20
                      have c20b1 : decide ((((((((((strOfNums y254) ++ t257) ++ t258) ++ t259) ++ t260) ++ t261) ++ t262) ++ t263) ++ a0_11).size + a0_12.size ≤ 9223372036854775807) = true := decide_eq_true c20
                      try have c20b2 : (9223372036854775807 < (((((((((strOfNums y254) ++ t257) ++ t258) ++ t259) ++ t260) ++ t261) ++ t262) ++ t263) ++ a0_11).size + a0_12.size) = False := eq_false (Nat.not_lt.2 c20)
                      (try (have c20b2a := c20b2; simp only [ByteArray.size_append] at c20b2a))
                      by_cases c21 : ((((((((((strOfNums y254) ++ t257) ++ t258) ++ t259) ++ t260) ++ t261) ++ t262) ++ t263) ++ a0_11) ++ a0_12).size + a0_13.size ≤ 9223372036854775807
                      · rw [if_pos c21] at H
                        have c21b0 := eq_true c21
                        have c21b1 : decide (((((((((((strOfNums y254) ++ t257) ++ t258) ++ t259) ++ t260) ++ t261) ++ t262) ++ t263) ++ a0_11) ++ a0_12).size + a0_13.size ≤ 9223372036854775807) = true := decide_eq_true c21
                        try have c21b2 : (9223372036854775807 < ((((((((((strOfNums y254) ++ t257) ++ t258) ++ t259) ++ t260) ++ t261) ++ t262) ++ t263) ++ a0_11) ++ a0_12).size + a0_13.size) = False := eq_false (Nat.not_lt.2 c21)
                        (try (have c21b2a := c21b2; simp only [ByteArray.size_append] at c21b2a))
                        by_cases c22 : (((((((((((strOfNums y254) ++ t257) ++ t258) ++ t259) ++ t260) ++ t261) ++ t262) ++ t263) ++ a0_11) ++ a0_12) ++ a0_13).size + 4 ≤ 9223372036854775807
                        · rw [if_pos c22] at H
                          have c22b0 := eq_true c22
                          have c22b1 : decide ((((((((((((strOfNums y254) ++ t257) ++ t258) ++ t259) ++ t260) ++ t261) ++ t262) ++ t263) ++ a0_11) ++ a0_12) ++ a0_13).size + 4 ≤ 9223372036854775807) = true := decide_eq_true c22
                          try have c22b2 : (9223372036854775807 < (((((((((((strOfNums y254) ++ t257) ++ t258) ++ t259) ++ t260) ++ t261) ++ t262) ++ t263) ++ a0_11) ++ a0_12) ++ a0_13).size + 4) = False := eq_false (Nat.not_lt.2 c22)
                          (try (have c22b2a := c22b2; simp only [ByteArray.size_append] at c22b2a))
                          by_cases c23 : ((((((((((((strOfNums y254) ++ t257) ++ t258) ++ t259) ++ t260) ++ t261) ++ t262) ++ t263) ++ a0_11) ++ a0_12) ++ a0_13) ++ (⟨#[99, 130, 83, 99]⟩ : ByteArray)).size + t252.size ≤ 9223372036854775807
                          · rw [if_pos c23] at H
                            have c23b0 := eq_true c23
                            have c23b1 : decide (((((((((((((strOfNums y254) ++ t257) ++ t258) ++ t259) ++ t260) ++ t261) ++ t262) ++ t263) ++ a0_11) ++ a0_12) ++ a0_13) ++ (⟨#[99, 130, 83, 99]⟩ : ByteArray)).size + t252.size ≤ 9223372036854775807) = true := decide_eq_true c23
                            try have c23b2 : (9223372036854775807 < ((((((((((((strOfNums y254) ++ t257) ++ t258) ++ t259) ++ t260) ++ t261) ++ t262) ++ t263) ++ a0_11) ++ a0_12) ++ a0_13) ++ (⟨#[99, 130, 83, 99]⟩ : ByteArray)).size + t252.size) = False := eq_false (Nat.not_lt.2 c23)
                            (try (have c23b2a := c23b2; simp only [ByteArray.size_append] at c23b2a))
                            by_cases c24 : ((((((((((((((strOfNums y254) ++ t257) ++ t258) ++ t259) ++ t260) ++ t261) ++ t262) ++ t263) ++ a0_11) ++ a0_12) ++ a0_13) ++ (⟨#[99, 130, 83, 99]⟩ : ByteArray)) ++ t252).size : Int) > 65507
                            · rw [if_pos c24] at H
                              have c24b0 : decide (65507 < ((((((((((((((strOfNums y254) ++ t257) ++ t258) ++ t259) ++ t260) ++ t261) ++ t262) ++ t263) ++ a0_11) ++ a0_12) ++ a0_13) ++ (⟨#[99, 130, 83, 99]⟩ : ByteArray)) ++ t252).size : Int)) = true := decide_eq_true c24
                              have c24b1 : decide (65507 < (((((((((((((strOfNums y254) ++ t257) ++ t258) ++ t259) ++ t260) ++ t261) ++ t262) ++ t263) ++ a0_11) ++ a0_12) ++ a0_13) ++ (⟨#[99, 130, 83, 99]⟩ : ByteArray)) ++ t252).size) = true := decide_eq_true (by omega)
                              have c24z := of_decide_eq_true c24b0
                              simp only [ByteArray.size_append, Int.natCast_add, show ((⟨#[99, 130, 83, 99]⟩ : ByteArray).size : Int) = 4 from rfl] at c24z
                              have c24y := eq_false (Int.not_le.mpr c24z)
                              replace c24z := eq_true c24z
                              clear c24
                              simp only [Option.some.injEq, Prod.mk.injEq] at H
                              obtain ⟨rfl, rfl⟩ := H
                              go_enter Try.func13, Try.ntmps13
                              try go_wp2_with (first | ((with_reducible refine gate_dst (N := 1) rfl ?_); refine box_event ?hg (N := 1) ?hd (cs := #[.int .u8 a0_0, .int .u8 a0_1, .int .u8 a0_2, .int .u8 a0_3, .int .u32 a0_4, .int .u16 a0_5, .int .u16 a0_6, .int .u32 a0_7, .int .u32 a0_8, .int .u32 a0_9, .int .u32 a0_10, .string a0_11, .string a0_12, .string a0_13, .slice A0_14 l0_14.length c0_14]) (t := 26) ?hr ?_; (case hd => rfl); (case hg => rfl); (case hr => first | (go_simp; done) | (go_simp; rfl)); intro gb250 hg w25 hbox hb; have n0_ := Aside0.mk (below_step (by repeat (first | (with_reducible first | exact HB.out | apply below_alloc | apply pw_below_drewN | apply below_drew1) | exact HB.out)) hb); have n1_ := Aside0.mk (hbox); have n2_ := Aside0.mk ((by rw [hg]; exact (below_size (by repeat (first | (with_reducible first | exact HB.out | apply below_alloc | apply pw_below_drewN | apply below_drew1) | exact HB.out))) : w.heap.size ≤ gb250)); have n3_ := Aside0.mk ((by rw [hg]; exact (below_size (by repeat (first | (with_reducible first | exact HB.out | apply below_alloc | apply pw_below_drewN | apply below_drew1) | exact HB.out))) : w.heap.size ≤ gb250)); clear HB; have HB := n0_; have BK250 := n1_; have GW250 := n2_; have GE250 := n3_; clear n0_ n1_ n2_ n3_; clear hb hbox hg; obtain ⟨hcz26_0, hcz26_1, hcz26_2, hcz26_3, hcz26_4, hcz26_5, hcz26_6, hcz26_7, hcz26_8, hcz26_9, hcz26_10, hcz26_11, hcz26_12, hcz26_13, hcz26_14⟩ := XRun.bc15 BK250.out; obtain ⟨hfz26_0, hfz26_1, hfz26_2, hfz26_3, hfz26_4, hfz26_5, hfz26_6, hfz26_7, hfz26_8, hfz26_9, hfz26_10, hfz26_11, hfz26_12, hfz26_13, hfz26_14⟩ := XRun.bf15 BK250.out) | ((with_reducible refine gate_callee (f := 15) rfl ?_); refine goesL_ (some 8) rfl rfl Try.func15 (by kernel_rfl) rfl #[.agg #[.int .u8 a0_0, .int .u8 a0_1, .int .u8 a0_2, .int .u8 a0_3, .int .u32 a0_4, .int .u16 a0_5, .int .u16 a0_6, .int .u32 a0_7, .int .u32 a0_8, .int .u32 a0_9, .int .u32 a0_10, .string a0_11, .string a0_12, .string a0_13, .slice A0_14 l0_14.length c0_14]] rfl (by (try simp only [List.map_toArray, List.map_cons, List.map_nil]); first | done | rfl | (simp only [List.length_drop, List.length_take]; rfl)) ?_; (with_reducible refine (tenancyref14_Sound.calls k a0_0 a0_1 a0_2 a0_3 a0_4 a0_5 a0_6 a0_7 a0_8 a0_9 a0_10 a0_11 a0_12 a0_13 _ _ l0_14 true _ ?side1 ?side2 A2.out).mono ?_); (case side1 => repeat (first | exact (Kd.C_below HR0_14.out HB.out) | (with_reducible refine Kd.C_alloc ?_ _) | (with_reducible refine Kd.C_drewN ?_ _) | (with_reducible refine Kd.C_drew ?_))); (case side2 => exact HC0_14.out); rintro e w27 ⟨rfl, hb⟩; refine ⟨_, rfl, ?_⟩; have n0_ := Aside0.mk (blk_below (g := gb250) (o := .cells #[.int .u8 a0_0, .int .u8 a0_1, .int .u8 a0_2, .int .u8 a0_3, .int .u32 a0_4, .int .u16 a0_5, .int .u16 a0_6, .int .u32 a0_7, .int .u32 a0_8, .int .u32 a0_9, .int .u32 a0_10, .string a0_11, .string a0_12, .string a0_13, .slice A0_14 l0_14.length c0_14] 26 (0, 0)) (by (with_reducible repeat (first | refine blk_drewN ?_ _ | refine blk_drew ?_ | refine blk_alloc ?_ _)); exact BK250.out) hb); have n1_ := Aside0.mk (below_step (by repeat (first | (with_reducible first | exact HB.out | apply below_alloc | apply pw_below_drewN | apply below_drew1 | refine below_set ?_ GE250.out) | exact HB.out)) hb); clear BK250; clear HB; have BK250 := n0_; have HB := n1_; clear n0_ n1_; (try clear hb); (try clear hb2); (try clear hk); (try clear hi); obtain ⟨hcz28_0, hcz28_1, hcz28_2, hcz28_3, hcz28_4, hcz28_5, hcz28_6, hcz28_7, hcz28_8, hcz28_9, hcz28_10, hcz28_11, hcz28_12, hcz28_13, hcz28_14⟩ := XRun.bc15 BK250.out; obtain ⟨hfz28_0, hfz28_1, hfz28_2, hfz28_3, hfz28_4, hfz28_5, hfz28_6, hfz28_7, hfz28_8, hfz28_9, hfz28_10, hfz28_11, hfz28_12, hfz28_13, hfz28_14⟩ := XRun.bf15 BK250.out) | ((with_reducible refine gate_callee (f := 29) rfl ?_); refine goesL_ (some 13) rfl rfl Try.func29 (by kernel_rfl) rfl #[.slice A0_14 l0_14.length c0_14] rfl (by (try simp only [List.map_toArray, List.map_cons, List.map_nil]); first | done | rfl | (simp only [List.length_drop, List.length_take]; rfl)) ?_; (with_reducible refine (tenancyref13_Emit.calls k _ _ l0_14 t252 t253 _ ?side1 ?side2 A4.out).mono ?_); (case side1 => repeat (first | exact (Kd.C_below HR0_14.out HB.out) | (with_reducible refine Kd.C_alloc ?_ _) | (with_reducible refine Kd.C_drewN ?_ _) | (with_reducible refine Kd.C_drew ?_))); (case side2 => exact HC0_14.out); rintro e w29 ⟨rfl, hb⟩; refine ⟨_, rfl, ?_⟩; have n0_ := Aside0.mk (blk_below (g := gb250) (o := .cells #[.int .u8 a0_0, .int .u8 a0_1, .int .u8 a0_2, .int .u8 a0_3, .int .u32 a0_4, .int .u16 a0_5, .int .u16 a0_6, .int .u32 a0_7, .int .u32 a0_8, .int .u32 a0_9, .int .u32 a0_10, .string a0_11, .string a0_12, .string a0_13, .slice A0_14 l0_14.length c0_14] 26 (0, 0)) (by (with_reducible repeat (first | refine blk_drewN ?_ _ | refine blk_drew ?_ | refine blk_alloc ?_ _)); exact BK250.out) hb); have n1_ := Aside0.mk (below_step (by repeat (first | (with_reducible first | exact HB.out | apply below_alloc | apply pw_below_drewN | apply below_drew1 | refine below_set ?_ GE250.out) | exact HB.out)) hb); clear BK250; clear HB; have BK250 := n0_; have HB := n1_; clear n0_ n1_; (try clear hb); (try clear hb2); (try clear hk); (try clear hi); obtain ⟨hcz30_0, hcz30_1, hcz30_2, hcz30_3, hcz30_4, hcz30_5, hcz30_6, hcz30_7, hcz30_8, hcz30_9, hcz30_10, hcz30_11, hcz30_12, hcz30_13, hcz30_14⟩ := XRun.bc15 BK250.out; obtain ⟨hfz30_0, hfz30_1, hfz30_2, hfz30_3, hfz30_4, hfz30_5, hfz30_6, hfz30_7, hfz30_8, hfz30_9, hfz30_10, hfz30_11, hfz30_12, hfz30_13, hfz30_14⟩ := XRun.bf15 BK250.out) | ((with_reducible refine gate_dst (N := 24) rfl ?_); refine Kd.R_lit (Kd.int .u8) _ 5 ?hg (N := 24) ?hd (xs := ([a0_0, a0_1, a0_2, a0_3] : List Int)) (inner := [.int .u8 a0_0, .int .u8 a0_1, .int .u8 a0_2, .int .u8 a0_3]) (ok := fun _ => True) (okp := fun _ => True) ?hr ?hp (fun _ hk => hk) trivial (Below.refl _ _) (Nat.le_refl _) (by simp) ?_; (case hd => rfl); (case hg => rfl); (case hr => first | (go_simp; done) | (go_simp; rfl)); (case hp => exact (Reps.one (show Kd.M (Kd.int .u8) _ _ _ a0_0 [.int .u8 a0_0] from rfl) (Reps.one (show Kd.M (Kd.int .u8) _ _ _ a0_1 [.int .u8 a0_1] from rfl) (Reps.one (show Kd.M (Kd.int .u8) _ _ _ a0_2 [.int .u8 a0_2] from rfl) (Reps.one (show Kd.M (Kd.int .u8) _ _ _ a0_3 [.int .u8 a0_3] from rfl) (Reps.none _ _)))))); intro v255 w31 ho32 hb hg_ hnew_; clear hg_ hnew_; (first | rw [← Ny254.out] at ho32 | (simp only [Int.reduceToNat] at ho32; rw [← Ny254.out] at ho32)); have n0_ := Aside0.mk (Kd.R_lower ho32 (below_size (by repeat (first | (with_reducible first | exact HB.out | apply below_alloc | apply pw_below_drewN | apply below_drew1 | refine below_set ?_ GE250.out) | exact HB.out)))); have n1_ := Aside0.mk (blk_below (g := gb250) (o := .cells #[.int .u8 a0_0, .int .u8 a0_1, .int .u8 a0_2, .int .u8 a0_3, .int .u32 a0_4, .int .u16 a0_5, .int .u16 a0_6, .int .u32 a0_7, .int .u32 a0_8, .int .u32 a0_9, .int .u32 a0_10, .string a0_11, .string a0_12, .string a0_13, .slice A0_14 l0_14.length c0_14] 26 (0, 0)) (by (with_reducible repeat (first | refine blk_drewN ?_ _ | refine blk_drew ?_ | refine blk_alloc ?_ _)); exact BK250.out) hb); have n2_ := Aside0.mk (below_step (by repeat (first | (with_reducible first | exact HB.out | apply below_alloc | apply pw_below_drewN | apply below_drew1 | refine below_set ?_ GE250.out) | exact HB.out)) hb); clear BK250; clear HB; have HO256 := n0_; have BK250 := n1_; have HB := n2_; clear n0_ n1_ n2_; clear hb ho32; have hcv33 := own_string (P := Try.prog) Try.underlying39 Try.underlying5 Try.underlying9 (Kd.own_of_R HO256.out)))
                              have n0_ := Aside0.mk (Kd.R_drew HO256.out)
                              have n1_ := Aside0.mk (blk_drew BK250.out)
                              have n2_ := Aside0.mk (below_drew1 HB.out)
                              clear HO256
                              clear BK250
                              clear HB
                              have HO256 := n0_
                              have BK250 := n1_
                              have HB := n2_
                              clear n0_ n1_ n2_
                              refine start_ (n := 14) (S := fun w' => w'.cell? ⟨gb250, 0, none⟩ = some (.int .u8 a0_0) ∧ w'.cell? ⟨gb250, 1, none⟩ = some (.int .u8 a0_1) ∧ w'.cell? ⟨gb250, 2, none⟩ = some (.int .u8 a0_2) ∧ w'.cell? ⟨gb250, 3, none⟩ = some (.int .u8 a0_3) ∧ w'.cell? ⟨gb250, 4, none⟩ = some (.int .u32 a0_4) ∧ w'.cell? ⟨gb250, 5, none⟩ = some (.int .u16 a0_5) ∧ w'.cell? ⟨gb250, 6, none⟩ = some (.int .u16 a0_6) ∧ w'.cell? ⟨gb250, 7, none⟩ = some (.int .u32 a0_7) ∧ w'.cell? ⟨gb250, 8, none⟩ = some (.int .u32 a0_8) ∧ w'.cell? ⟨gb250, 9, none⟩ = some (.int .u32 a0_9) ∧ w'.cell? ⟨gb250, 10, none⟩ = some (.int .u32 a0_10) ∧ w'.cell? ⟨gb250, 11, none⟩ = some (.string a0_11) ∧ w'.cell? ⟨gb250, 12, none⟩ = some (.string a0_12) ∧ w'.cell? ⟨gb250, 13, none⟩ = some (.string a0_13) ∧ w'.cell? ⟨gb250, 14, none⟩ = some (.slice A0_14 l0_14.length c0_14)) (ds := []) #[false, false, false, false, false, false, false, false, false, false, false, false, false, false] (by kernel_rfl) rfl rfl ⟨(blk_cell BK250.out 0).trans rfl, (blk_cell BK250.out 1).trans rfl, (blk_cell BK250.out 2).trans rfl, (blk_cell BK250.out 3).trans rfl, (blk_cell BK250.out 4).trans rfl, (blk_cell BK250.out 5).trans rfl, (blk_cell BK250.out 6).trans rfl, (blk_cell BK250.out 7).trans rfl, (blk_cell BK250.out 8).trans rfl, (blk_cell BK250.out 9).trans rfl, (blk_cell BK250.out 10).trans rfl, (blk_cell BK250.out 11).trans rfl, (blk_cell BK250.out 12).trans rfl, (blk_cell BK250.out 13).trans rfl, (blk_cell BK250.out 14).trans rfl⟩ (fun hHeld => ?_); refine with_tabW tenancyref14_Encode.tab5 tenancyref14_Encode.bits5 (fun HT_ HW_ => ?_)
                              generalize w31.drew = w34 at HO256 BK250 HB hHeld ⊢
                              refine pure_ (i := 0) (N := some 26) (v := ?_) (a' := ?_) #[true, false, false, false, false, false, false, false, false, false, false, false, false, false] rfl rfl (any_of HT_.out (by kernel_rfl)) (fun _ _ _ h => h) (Or.inl ⟨by rfl, ?_⟩) ?_ ?_
                              rotate_left
                              · intro w'
                                go_simp
                                with_reducible rfl
                              rotate_left
                              · simp only [Act.put, List.setIfInBounds_toArray, List.set_cons_zero, List.set_cons_succ, i64_w, i32_w]
                                rfl
                              refine pure_ (i := 1) (N := some 27) (v := ?_) (a' := ?_) #[true, true, false, false, false, false, false, false, false, false, false, false, false, false] rfl rfl (any_of HT_.out (by kernel_rfl)) (fun _ _ _ h => h) (Or.inl ⟨by rfl, ?_⟩) ?_ ?_
                              rotate_left
                              · intro w'
                                go_simp
                                with_reducible rfl
                              rotate_left
                              · simp only [Act.put, List.setIfInBounds_toArray, List.set_cons_zero, List.set_cons_succ, i64_w, i32_w]
                                rfl
                              refine pure_ (i := 5) (N := some 31) (v := ?_) (a' := ?_) #[true, true, false, false, false, true, false, false, false, false, false, false, false, false] rfl rfl (any_of HT_.out (by kernel_rfl)) (fun _ _ _ h => h) (Or.inl ⟨by rfl, ?_⟩) ?_ ?_
                              rotate_left
                              · intro w'
                                go_simp
                                with_reducible rfl
                              rotate_left
                              · simp only [Act.put, List.setIfInBounds_toArray, List.set_cons_zero, List.set_cons_succ, i64_w, i32_w]
                                rfl
                              refine pure_ (i := 9) (N := some 35) (v := ?_) (a' := ?_) #[true, true, false, false, false, true, false, false, false, true, false, false, false, false] rfl rfl (any_of HT_.out (by kernel_rfl)) (fun _ _ _ h => h) (Or.inl ⟨by rfl, ?_⟩) ?_ ?_
                              rotate_left
                              · intro w'
                                go_simp
                                with_reducible rfl
                              rotate_left
                              · simp only [Act.put, List.setIfInBounds_toArray, List.set_cons_zero, List.set_cons_succ, i64_w, i32_w]
                                rfl
                              refine take_ (i := 2) (N := some 28) (v := ?_) (a' := ?_) #[true, true, true, false, false, true, false, false, false, true, false, false, false, false] rfl rfl (take_ofW HT_.out HW_.out (by kernel_rfl)) (fun _ _ _ h => h) (Or.inl ⟨by rfl, ?_⟩) hHeld ?_ ?_
                              rotate_left
                              · rintro w' ⟨s0, s1, s2, s3, s4, s5, s6, s7, s8, s9, s10, s11, s12, s13, s14⟩
                                go_simp
                                with_reducible rfl
                              rotate_left
                              · simp only [Act.put, List.setIfInBounds_toArray, List.set_cons_zero, List.set_cons_succ, i64_w, i32_w]
                                rfl
                              refine take_ (i := 6) (N := some 32) (v := ?_) (a' := ?_) #[true, true, true, false, false, true, true, false, false, true, false, false, false, false] rfl rfl (take_ofW HT_.out HW_.out (by kernel_rfl)) (fun _ _ _ h => h) (Or.inl ⟨by rfl, ?_⟩) hHeld ?_ ?_
                              rotate_left
                              · rintro w' ⟨s0, s1, s2, s3, s4, s5, s6, s7, s8, s9, s10, s11, s12, s13, s14⟩
                                go_simp
                                with_reducible rfl
                              rotate_left
                              · simp only [Act.put, List.setIfInBounds_toArray, List.set_cons_zero, List.set_cons_succ, i64_w, i32_w]
                                rfl
                              refine take_ (i := 10) (N := some 36) (v := ?_) (a' := ?_) #[true, true, true, false, false, true, true, false, false, true, true, false, false, false] rfl rfl (take_ofW HT_.out HW_.out (by kernel_rfl)) (fun _ _ _ h => h) (Or.inl ⟨by rfl, ?_⟩) hHeld ?_ ?_
                              rotate_left
                              · rintro w' ⟨s0, s1, s2, s3, s4, s5, s6, s7, s8, s9, s10, s11, s12, s13, s14⟩
                                go_simp
                                with_reducible rfl
                              rotate_left
                              · simp only [Act.put, List.setIfInBounds_toArray, List.set_cons_zero, List.set_cons_succ, i64_w, i32_w]
                                rfl
                              refine one_ (i := 3) (N := some 29) #[true, true, true, true, false, true, true, false, false, true, true, false, false, false] rfl rfl (one_of HT_.out (by kernel_rfl)) (by decide) (fun K hK => ?_)
                              refine goes_ Try.func30 (by kernel_rfl) rfl #[.int .u32 a0_4] (by rfl) rfl rfl (by (try simp only [List.map_toArray, List.map_cons, List.map_nil]); first | done | rfl | (simp only [List.length_drop, List.length_take]; rfl)) ?_
                              with_reducible refine (tenancyref04_Put32.calls k a0_4 t257 _ A5.out).mono ?_
                              rintro e w35 ⟨rfl, hb⟩
                              refine ⟨_, rfl, ?_⟩
                              have n0_ := Aside0.mk (Kd.R_below (by (with_reducible repeat (first | apply Kd.R_alloc | apply Kd.R_drewN | apply Kd.R_drew)); exact HO256.out) hb)
                              have n1_ := Aside0.mk (blk_below (g := gb250) (o := .cells #[.int .u8 a0_0, .int .u8 a0_1, .int .u8 a0_2, .int .u8 a0_3, .int .u32 a0_4, .int .u16 a0_5, .int .u16 a0_6, .int .u32 a0_7, .int .u32 a0_8, .int .u32 a0_9, .int .u32 a0_10, .string a0_11, .string a0_12, .string a0_13, .slice A0_14 l0_14.length c0_14] 26 (0, 0)) (by (with_reducible repeat (first | refine blk_drewN ?_ _ | refine blk_drew ?_ | refine blk_alloc ?_ _)); exact BK250.out) hb)
                              have n2_ := Aside0.mk (below_step (by repeat (first | (with_reducible first | exact HB.out | apply below_alloc | apply pw_below_drewN | apply below_drew1 | refine below_set ?_ GE250.out) | exact HB.out)) hb)
                              clear HO256
                              clear BK250
                              clear HB
                              have HO256 := n0_
                              have BK250 := n1_
                              have HB := n2_
                              clear n0_ n1_ n2_
                              (try clear hb)
                              (try clear hb2)
                              (try clear hk)
                              (try clear hi)
                              refine hK.out _ _ ⟨(blk_cell BK250.out 0).trans rfl, (blk_cell BK250.out 1).trans rfl, (blk_cell BK250.out 2).trans rfl, (blk_cell BK250.out 3).trans rfl, (blk_cell BK250.out 4).trans rfl, (blk_cell BK250.out 5).trans rfl, (blk_cell BK250.out 6).trans rfl, (blk_cell BK250.out 7).trans rfl, (blk_cell BK250.out 8).trans rfl, (blk_cell BK250.out 9).trans rfl, (blk_cell BK250.out 10).trans rfl, (blk_cell BK250.out 11).trans rfl, (blk_cell BK250.out 12).trans rfl, (blk_cell BK250.out 13).trans rfl, (blk_cell BK250.out 14).trans rfl⟩ (fun hHeld => ?_)
                              clear hK K
                              refine norm_ (a' := ?_) ?_ ?_
                              rotate_left
                              · show Act.put _ (some 29) _ = _
                                simp only [Act.put, List.setIfInBounds_toArray, List.set_cons_zero, List.set_cons_succ, i64_w, i32_w]
                                rfl
                              refine pure_ (i := 4) (N := some 30) (v := ?_) (a' := ?_) #[true, true, true, true, true, true, true, false, false, true, true, false, false, false] rfl rfl (any_of HT_.out (by kernel_rfl)) (fun _ _ _ h => h) (Or.inl ⟨by rfl, ?_⟩) ?_ ?_
                              rotate_left
                              · intro w'
                                go_simp
                                with_reducible rfl
                              rotate_left
                              · simp only [Act.put, List.setIfInBounds_toArray, List.set_cons_zero, List.set_cons_succ, i64_w, i32_w]
                                rfl
                              refine one_ (i := 7) (N := some 33) #[true, true, true, true, true, true, true, true, false, true, true, false, false, false] rfl rfl (one_of HT_.out (by kernel_rfl)) (by decide) (fun K hK => ?_)
                              refine goes_ Try.func31 (by kernel_rfl) rfl #[.int .u16 a0_5] (by rfl) rfl rfl (by (try simp only [List.map_toArray, List.map_cons, List.map_nil]); first | done | rfl | (simp only [List.length_drop, List.length_take]; rfl)) ?_
                              with_reducible refine (tenancyref04_Put16.calls k a0_5 t258 _ A7.out).mono ?_
                              rintro e w36 ⟨rfl, hb⟩
                              refine ⟨_, rfl, ?_⟩
                              have n0_ := Aside0.mk (Kd.R_below (by (with_reducible repeat (first | apply Kd.R_alloc | apply Kd.R_drewN | apply Kd.R_drew)); exact HO256.out) hb)
                              have n1_ := Aside0.mk (blk_below (g := gb250) (o := .cells #[.int .u8 a0_0, .int .u8 a0_1, .int .u8 a0_2, .int .u8 a0_3, .int .u32 a0_4, .int .u16 a0_5, .int .u16 a0_6, .int .u32 a0_7, .int .u32 a0_8, .int .u32 a0_9, .int .u32 a0_10, .string a0_11, .string a0_12, .string a0_13, .slice A0_14 l0_14.length c0_14] 26 (0, 0)) (by (with_reducible repeat (first | refine blk_drewN ?_ _ | refine blk_drew ?_ | refine blk_alloc ?_ _)); exact BK250.out) hb)
                              have n2_ := Aside0.mk (below_step (by repeat (first | (with_reducible first | exact HB.out | apply below_alloc | apply pw_below_drewN | apply below_drew1 | refine below_set ?_ GE250.out) | exact HB.out)) hb)
                              clear HO256
                              clear BK250
                              clear HB
                              have HO256 := n0_
                              have BK250 := n1_
                              have HB := n2_
                              clear n0_ n1_ n2_
                              (try clear hb)
                              (try clear hb2)
                              (try clear hk)
                              (try clear hi)
                              refine hK.out _ _ ⟨(blk_cell BK250.out 0).trans rfl, (blk_cell BK250.out 1).trans rfl, (blk_cell BK250.out 2).trans rfl, (blk_cell BK250.out 3).trans rfl, (blk_cell BK250.out 4).trans rfl, (blk_cell BK250.out 5).trans rfl, (blk_cell BK250.out 6).trans rfl, (blk_cell BK250.out 7).trans rfl, (blk_cell BK250.out 8).trans rfl, (blk_cell BK250.out 9).trans rfl, (blk_cell BK250.out 10).trans rfl, (blk_cell BK250.out 11).trans rfl, (blk_cell BK250.out 12).trans rfl, (blk_cell BK250.out 13).trans rfl, (blk_cell BK250.out 14).trans rfl⟩ (fun hHeld => ?_)
                              clear hK K
                              refine norm_ (a' := ?_) ?_ ?_
                              rotate_left
                              · show Act.put _ (some 33) _ = _
                                simp only [Act.put, List.setIfInBounds_toArray, List.set_cons_zero, List.set_cons_succ, i64_w, i32_w]
                                rfl
                              refine pure_ (i := 8) (N := some 34) (v := ?_) (a' := ?_) #[true, true, true, true, true, true, true, true, true, true, true, false, false, false] rfl rfl (any_of HT_.out (by kernel_rfl)) (fun _ _ _ h => h) (Or.inl ⟨by rfl, ?_⟩) ?_ ?_
                              rotate_left
                              · intro w'
                                go_simp
                                with_reducible rfl
                              rotate_left
                              · simp only [Act.put, List.setIfInBounds_toArray, List.set_cons_zero, List.set_cons_succ, i64_w, i32_w]
                                rfl
                              refine one_ (i := 11) (N := some 37) #[true, true, true, true, true, true, true, true, true, true, true, true, false, false] rfl rfl (one_of HT_.out (by kernel_rfl)) (by decide) (fun K hK => ?_)
                              refine goes_ Try.func31 (by kernel_rfl) rfl #[.int .u16 a0_6] (by rfl) rfl rfl (by (try simp only [List.map_toArray, List.map_cons, List.map_nil]); first | done | rfl | (simp only [List.length_drop, List.length_take]; rfl)) ?_
                              with_reducible refine (tenancyref04_Put16.calls k a0_6 t259 _ A9.out).mono ?_
                              rintro e w37 ⟨rfl, hb⟩
                              refine ⟨_, rfl, ?_⟩
                              have n0_ := Aside0.mk (Kd.R_below (by (with_reducible repeat (first | apply Kd.R_alloc | apply Kd.R_drewN | apply Kd.R_drew)); exact HO256.out) hb)
                              have n1_ := Aside0.mk (blk_below (g := gb250) (o := .cells #[.int .u8 a0_0, .int .u8 a0_1, .int .u8 a0_2, .int .u8 a0_3, .int .u32 a0_4, .int .u16 a0_5, .int .u16 a0_6, .int .u32 a0_7, .int .u32 a0_8, .int .u32 a0_9, .int .u32 a0_10, .string a0_11, .string a0_12, .string a0_13, .slice A0_14 l0_14.length c0_14] 26 (0, 0)) (by (with_reducible repeat (first | refine blk_drewN ?_ _ | refine blk_drew ?_ | refine blk_alloc ?_ _)); exact BK250.out) hb)
                              have n2_ := Aside0.mk (below_step (by repeat (first | (with_reducible first | exact HB.out | apply below_alloc | apply pw_below_drewN | apply below_drew1 | refine below_set ?_ GE250.out) | exact HB.out)) hb)
                              clear HO256
                              clear BK250
                              clear HB
                              have HO256 := n0_
                              have BK250 := n1_
                              have HB := n2_
                              clear n0_ n1_ n2_
                              (try clear hb)
                              (try clear hb2)
                              (try clear hk)
                              (try clear hi)
                              refine hK.out _ _ ⟨(blk_cell BK250.out 0).trans rfl, (blk_cell BK250.out 1).trans rfl, (blk_cell BK250.out 2).trans rfl, (blk_cell BK250.out 3).trans rfl, (blk_cell BK250.out 4).trans rfl, (blk_cell BK250.out 5).trans rfl, (blk_cell BK250.out 6).trans rfl, (blk_cell BK250.out 7).trans rfl, (blk_cell BK250.out 8).trans rfl, (blk_cell BK250.out 9).trans rfl, (blk_cell BK250.out 10).trans rfl, (blk_cell BK250.out 11).trans rfl, (blk_cell BK250.out 12).trans rfl, (blk_cell BK250.out 13).trans rfl, (blk_cell BK250.out 14).trans rfl⟩ (fun hHeld => ?_)
                              clear hK K
                              refine norm_ (a' := ?_) ?_ ?_
                              rotate_left
                              · show Act.put _ (some 37) _ = _
                                simp only [Act.put, List.setIfInBounds_toArray, List.set_cons_zero, List.set_cons_succ, i64_w, i32_w]
                                rfl
                              refine pure_ (i := 12) (N := some 38) (v := ?_) (a' := ?_) #[true, true, true, true, true, true, true, true, true, true, true, true, true, false] rfl rfl (any_of HT_.out (by kernel_rfl)) (fun _ _ _ h => h) (Or.inl ⟨by rfl, ?_⟩) ?_ ?_
                              rotate_left
                              · intro w'
                                go_simp
                                with_reducible rfl
                              rotate_left
                              · simp only [Act.put, List.setIfInBounds_toArray, List.set_cons_zero, List.set_cons_succ, i64_w, i32_w]
                                rfl
                              refine pure_ (i := 13) (N := some 6) (v := ?_) (a' := ?_) #[true, true, true, true, true, true, true, true, true, true, true, true, true, true] rfl rfl (any_of HT_.out (by kernel_rfl)) (fun _ _ _ h => h) (Or.inl ⟨by rfl, ?_⟩) ?_ ?_
                              rotate_left
                              · intro w'
                                go_simp
                                with_reducible rfl
                              rotate_left
                              · simp only [Act.put, List.setIfInBounds_toArray, List.set_cons_zero, List.set_cons_succ, i64_w, i32_w]
                                rfl
                              refine done_ (done_of HT_.out (by kernel_rfl)) ?_
                              try go_wp2
                              have n0_ := Aside0.mk (Kd.R_drew HO256.out)
                              have n1_ := Aside0.mk (blk_drew BK250.out)
                              have n2_ := Aside0.mk (below_drew1 HB.out)
                              clear HO256
                              clear BK250
                              clear HB
                              have HO256 := n0_
                              have BK250 := n1_
                              have HB := n2_
                              clear n0_ n1_ n2_
                              refine start_ (n := 18) (S := fun w' => w'.cell? ⟨gb250, 0, none⟩ = some (.int .u8 a0_0) ∧ w'.cell? ⟨gb250, 1, none⟩ = some (.int .u8 a0_1) ∧ w'.cell? ⟨gb250, 2, none⟩ = some (.int .u8 a0_2) ∧ w'.cell? ⟨gb250, 3, none⟩ = some (.int .u8 a0_3) ∧ w'.cell? ⟨gb250, 4, none⟩ = some (.int .u32 a0_4) ∧ w'.cell? ⟨gb250, 5, none⟩ = some (.int .u16 a0_5) ∧ w'.cell? ⟨gb250, 6, none⟩ = some (.int .u16 a0_6) ∧ w'.cell? ⟨gb250, 7, none⟩ = some (.int .u32 a0_7) ∧ w'.cell? ⟨gb250, 8, none⟩ = some (.int .u32 a0_8) ∧ w'.cell? ⟨gb250, 9, none⟩ = some (.int .u32 a0_9) ∧ w'.cell? ⟨gb250, 10, none⟩ = some (.int .u32 a0_10) ∧ w'.cell? ⟨gb250, 11, none⟩ = some (.string a0_11) ∧ w'.cell? ⟨gb250, 12, none⟩ = some (.string a0_12) ∧ w'.cell? ⟨gb250, 13, none⟩ = some (.string a0_13) ∧ w'.cell? ⟨gb250, 14, none⟩ = some (.slice A0_14 l0_14.length c0_14)) (ds := []) #[false, false, false, false, false, false, false, false, false, false, false, false, false, false, false, false, false, false] (by kernel_rfl) rfl rfl ⟨(blk_cell BK250.out 0).trans rfl, (blk_cell BK250.out 1).trans rfl, (blk_cell BK250.out 2).trans rfl, (blk_cell BK250.out 3).trans rfl, (blk_cell BK250.out 4).trans rfl, (blk_cell BK250.out 5).trans rfl, (blk_cell BK250.out 6).trans rfl, (blk_cell BK250.out 7).trans rfl, (blk_cell BK250.out 8).trans rfl, (blk_cell BK250.out 9).trans rfl, (blk_cell BK250.out 10).trans rfl, (blk_cell BK250.out 11).trans rfl, (blk_cell BK250.out 12).trans rfl, (blk_cell BK250.out 13).trans rfl, (blk_cell BK250.out 14).trans rfl⟩ (fun hHeld => ?_); refine with_tabW tenancyref14_Encode.tab6 tenancyref14_Encode.bits6 (fun HT_ HW_ => ?_)
                              generalize w37.drew = w38 at HO256 BK250 HB hHeld ⊢
                              refine pure_ (i := 0) (N := some 39) (v := ?_) (a' := ?_) #[true, false, false, false, false, false, false, false, false, false, false, false, false, false, false, false, false, false] rfl rfl (any_of HT_.out (by kernel_rfl)) (fun _ _ _ h => h) (Or.inl ⟨by rfl, ?_⟩) ?_ ?_
                              rotate_left
                              · intro w'
                                go_simp
                                with_reducible rfl
                              rotate_left
                              · simp only [Act.put, List.setIfInBounds_toArray, List.set_cons_zero, List.set_cons_succ, i64_w, i32_w]
                                rfl
                              refine pure_ (i := 1) (N := some 40) (v := ?_) (a' := ?_) #[true, true, false, false, false, false, false, false, false, false, false, false, false, false, false, false, false, false] rfl rfl (any_of HT_.out (by kernel_rfl)) (fun _ _ _ h => h) (Or.inl ⟨by rfl, ?_⟩) ?_ ?_
                              rotate_left
                              · intro w'
                                go_simp
                                with_reducible rfl
                              rotate_left
                              · simp only [Act.put, List.setIfInBounds_toArray, List.set_cons_zero, List.set_cons_succ, i64_w, i32_w]
                                rfl
                              refine pure_ (i := 5) (N := some 44) (v := ?_) (a' := ?_) #[true, true, false, false, false, true, false, false, false, false, false, false, false, false, false, false, false, false] rfl rfl (any_of HT_.out (by kernel_rfl)) (fun _ _ _ h => h) (Or.inl ⟨by rfl, ?_⟩) ?_ ?_
                              rotate_left
                              · intro w'
                                go_simp
                                with_reducible rfl
                              rotate_left
                              · simp only [Act.put, List.setIfInBounds_toArray, List.set_cons_zero, List.set_cons_succ, i64_w, i32_w]
                                rfl
                              refine pure_ (i := 9) (N := some 48) (v := ?_) (a' := ?_) #[true, true, false, false, false, true, false, false, false, true, false, false, false, false, false, false, false, false] rfl rfl (any_of HT_.out (by kernel_rfl)) (fun _ _ _ h => h) (Or.inl ⟨by rfl, ?_⟩) ?_ ?_
                              rotate_left
                              · intro w'
                                go_simp
                                with_reducible rfl
                              rotate_left
                              · simp only [Act.put, List.setIfInBounds_toArray, List.set_cons_zero, List.set_cons_succ, i64_w, i32_w]
                                rfl
                              refine pure_ (i := 13) (N := some 52) (v := ?_) (a' := ?_) #[true, true, false, false, false, true, false, false, false, true, false, false, false, true, false, false, false, false] rfl rfl (any_of HT_.out (by kernel_rfl)) (fun _ _ _ h => h) (Or.inl ⟨by rfl, ?_⟩) ?_ ?_
                              rotate_left
                              · intro w'
                                go_simp
                                with_reducible rfl
                              rotate_left
                              · simp only [Act.put, List.setIfInBounds_toArray, List.set_cons_zero, List.set_cons_succ, i64_w, i32_w]
                                rfl
                              refine take_ (i := 2) (N := some 41) (v := ?_) (a' := ?_) #[true, true, true, false, false, true, false, false, false, true, false, false, false, true, false, false, false, false] rfl rfl (take_ofW HT_.out HW_.out (by kernel_rfl)) (fun _ _ _ h => h) (Or.inl ⟨by rfl, ?_⟩) hHeld ?_ ?_
                              rotate_left
                              · rintro w' ⟨s0, s1, s2, s3, s4, s5, s6, s7, s8, s9, s10, s11, s12, s13, s14⟩
                                go_simp
                                with_reducible rfl
                              rotate_left
                              · simp only [Act.put, List.setIfInBounds_toArray, List.set_cons_zero, List.set_cons_succ, i64_w, i32_w]
                                rfl
                              refine take_ (i := 6) (N := some 45) (v := ?_) (a' := ?_) #[true, true, true, false, false, true, true, false, false, true, false, false, false, true, false, false, false, false] rfl rfl (take_ofW HT_.out HW_.out (by kernel_rfl)) (fun _ _ _ h => h) (Or.inl ⟨by rfl, ?_⟩) hHeld ?_ ?_
                              rotate_left
                              · rintro w' ⟨s0, s1, s2, s3, s4, s5, s6, s7, s8, s9, s10, s11, s12, s13, s14⟩
                                go_simp
                                with_reducible rfl
                              rotate_left
                              · simp only [Act.put, List.setIfInBounds_toArray, List.set_cons_zero, List.set_cons_succ, i64_w, i32_w]
                                rfl
                              refine take_ (i := 10) (N := some 49) (v := ?_) (a' := ?_) #[true, true, true, false, false, true, true, false, false, true, true, false, false, true, false, false, false, false] rfl rfl (take_ofW HT_.out HW_.out (by kernel_rfl)) (fun _ _ _ h => h) (Or.inl ⟨by rfl, ?_⟩) hHeld ?_ ?_
                              rotate_left
                              · rintro w' ⟨s0, s1, s2, s3, s4, s5, s6, s7, s8, s9, s10, s11, s12, s13, s14⟩
                                go_simp
                                with_reducible rfl
                              rotate_left
                              · simp only [Act.put, List.setIfInBounds_toArray, List.set_cons_zero, List.set_cons_succ, i64_w, i32_w]
                                rfl
                              refine take_ (i := 14) (N := some 53) (v := ?_) (a' := ?_) #[true, true, true, false, false, true, true, false, false, true, true, false, false, true, true, false, false, false] rfl rfl (take_ofW HT_.out HW_.out (by kernel_rfl)) (fun _ _ _ h => h) (Or.inl ⟨by rfl, ?_⟩) hHeld ?_ ?_
                              rotate_left
                              · rintro w' ⟨s0, s1, s2, s3, s4, s5, s6, s7, s8, s9, s10, s11, s12, s13, s14⟩
                                go_simp
                                with_reducible rfl
                              rotate_left
                              · simp only [Act.put, List.setIfInBounds_toArray, List.set_cons_zero, List.set_cons_succ, i64_w, i32_w]
                                rfl
                              refine one_ (i := 3) (N := some 42) #[true, true, true, true, false, true, true, false, false, true, true, false, false, true, true, false, false, false] rfl rfl (one_of HT_.out (by kernel_rfl)) (by decide) (fun K hK => ?_)
                              refine goes_ Try.func30 (by kernel_rfl) rfl #[.int .u32 a0_7] (by rfl) rfl rfl (by (try simp only [List.map_toArray, List.map_cons, List.map_nil]); first | done | rfl | (simp only [List.length_drop, List.length_take]; rfl)) ?_
                              with_reducible refine (tenancyref04_Put32.calls k a0_7 t260 _ A11.out).mono ?_
                              rintro e w39 ⟨rfl, hb⟩
                              refine ⟨_, rfl, ?_⟩
                              have n0_ := Aside0.mk (Kd.R_below (by (with_reducible repeat (first | apply Kd.R_alloc | apply Kd.R_drewN | apply Kd.R_drew)); exact HO256.out) hb)
                              have n1_ := Aside0.mk (blk_below (g := gb250) (o := .cells #[.int .u8 a0_0, .int .u8 a0_1, .int .u8 a0_2, .int .u8 a0_3, .int .u32 a0_4, .int .u16 a0_5, .int .u16 a0_6, .int .u32 a0_7, .int .u32 a0_8, .int .u32 a0_9, .int .u32 a0_10, .string a0_11, .string a0_12, .string a0_13, .slice A0_14 l0_14.length c0_14] 26 (0, 0)) (by (with_reducible repeat (first | refine blk_drewN ?_ _ | refine blk_drew ?_ | refine blk_alloc ?_ _)); exact BK250.out) hb)
                              have n2_ := Aside0.mk (below_step (by repeat (first | (with_reducible first | exact HB.out | apply below_alloc | apply pw_below_drewN | apply below_drew1 | refine below_set ?_ GE250.out) | exact HB.out)) hb)
                              clear HO256
                              clear BK250
                              clear HB
                              have HO256 := n0_
                              have BK250 := n1_
                              have HB := n2_
                              clear n0_ n1_ n2_
                              (try clear hb)
                              (try clear hb2)
                              (try clear hk)
                              (try clear hi)
                              refine hK.out _ _ ⟨(blk_cell BK250.out 0).trans rfl, (blk_cell BK250.out 1).trans rfl, (blk_cell BK250.out 2).trans rfl, (blk_cell BK250.out 3).trans rfl, (blk_cell BK250.out 4).trans rfl, (blk_cell BK250.out 5).trans rfl, (blk_cell BK250.out 6).trans rfl, (blk_cell BK250.out 7).trans rfl, (blk_cell BK250.out 8).trans rfl, (blk_cell BK250.out 9).trans rfl, (blk_cell BK250.out 10).trans rfl, (blk_cell BK250.out 11).trans rfl, (blk_cell BK250.out 12).trans rfl, (blk_cell BK250.out 13).trans rfl, (blk_cell BK250.out 14).trans rfl⟩ (fun hHeld => ?_)
                              clear hK K
                              refine norm_ (a' := ?_) ?_ ?_
                              rotate_left
                              · show Act.put _ (some 42) _ = _
                                simp only [Act.put, List.setIfInBounds_toArray, List.set_cons_zero, List.set_cons_succ, i64_w, i32_w]
                                rfl
                              refine pure_ (i := 4) (N := some 43) (v := ?_) (a' := ?_) #[true, true, true, true, true, true, true, false, false, true, true, false, false, true, true, false, false, false] rfl rfl (any_of HT_.out (by kernel_rfl)) (fun _ _ _ h => h) (Or.inl ⟨by rfl, ?_⟩) ?_ ?_
                              rotate_left
                              · intro w'
                                go_simp
                                with_reducible rfl
                              rotate_left
                              · simp only [Act.put, List.setIfInBounds_toArray, List.set_cons_zero, List.set_cons_succ, i64_w, i32_w]
                                rfl
                              refine one_ (i := 7) (N := some 46) #[true, true, true, true, true, true, true, true, false, true, true, false, false, true, true, false, false, false] rfl rfl (one_of HT_.out (by kernel_rfl)) (by decide) (fun K hK => ?_)
                              refine goes_ Try.func30 (by kernel_rfl) rfl #[.int .u32 a0_8] (by rfl) rfl rfl (by (try simp only [List.map_toArray, List.map_cons, List.map_nil]); first | done | rfl | (simp only [List.length_drop, List.length_take]; rfl)) ?_
                              with_reducible refine (tenancyref04_Put32.calls k a0_8 t261 _ A13.out).mono ?_
                              rintro e w40 ⟨rfl, hb⟩
                              refine ⟨_, rfl, ?_⟩
                              have n0_ := Aside0.mk (Kd.R_below (by (with_reducible repeat (first | apply Kd.R_alloc | apply Kd.R_drewN | apply Kd.R_drew)); exact HO256.out) hb)
                              have n1_ := Aside0.mk (blk_below (g := gb250) (o := .cells #[.int .u8 a0_0, .int .u8 a0_1, .int .u8 a0_2, .int .u8 a0_3, .int .u32 a0_4, .int .u16 a0_5, .int .u16 a0_6, .int .u32 a0_7, .int .u32 a0_8, .int .u32 a0_9, .int .u32 a0_10, .string a0_11, .string a0_12, .string a0_13, .slice A0_14 l0_14.length c0_14] 26 (0, 0)) (by (with_reducible repeat (first | refine blk_drewN ?_ _ | refine blk_drew ?_ | refine blk_alloc ?_ _)); exact BK250.out) hb)
                              have n2_ := Aside0.mk (below_step (by repeat (first | (with_reducible first | exact HB.out | apply below_alloc | apply pw_below_drewN | apply below_drew1 | refine below_set ?_ GE250.out) | exact HB.out)) hb)
                              clear HO256
                              clear BK250
                              clear HB
                              have HO256 := n0_
                              have BK250 := n1_
                              have HB := n2_
                              clear n0_ n1_ n2_
                              (try clear hb)
                              (try clear hb2)
                              (try clear hk)
                              (try clear hi)
                              refine hK.out _ _ ⟨(blk_cell BK250.out 0).trans rfl, (blk_cell BK250.out 1).trans rfl, (blk_cell BK250.out 2).trans rfl, (blk_cell BK250.out 3).trans rfl, (blk_cell BK250.out 4).trans rfl, (blk_cell BK250.out 5).trans rfl, (blk_cell BK250.out 6).trans rfl, (blk_cell BK250.out 7).trans rfl, (blk_cell BK250.out 8).trans rfl, (blk_cell BK250.out 9).trans rfl, (blk_cell BK250.out 10).trans rfl, (blk_cell BK250.out 11).trans rfl, (blk_cell BK250.out 12).trans rfl, (blk_cell BK250.out 13).trans rfl, (blk_cell BK250.out 14).trans rfl⟩ (fun hHeld => ?_)
                              clear hK K
                              refine norm_ (a' := ?_) ?_ ?_
                              rotate_left
                              · show Act.put _ (some 46) _ = _
                                simp only [Act.put, List.setIfInBounds_toArray, List.set_cons_zero, List.set_cons_succ, i64_w, i32_w]
                                rfl
                              refine pure_ (i := 8) (N := some 47) (v := ?_) (a' := ?_) #[true, true, true, true, true, true, true, true, true, true, true, false, false, true, true, false, false, false] rfl rfl (any_of HT_.out (by kernel_rfl)) (fun _ _ _ h => h) (Or.inl ⟨by rfl, ?_⟩) ?_ ?_
                              rotate_left
                              · intro w'
                                go_simp
                                with_reducible rfl
                              rotate_left
                              · simp only [Act.put, List.setIfInBounds_toArray, List.set_cons_zero, List.set_cons_succ, i64_w, i32_w]
                                rfl
                              refine one_ (i := 11) (N := some 50) #[true, true, true, true, true, true, true, true, true, true, true, true, false, true, true, false, false, false] rfl rfl (one_of HT_.out (by kernel_rfl)) (by decide) (fun K hK => ?_)
                              refine goes_ Try.func30 (by kernel_rfl) rfl #[.int .u32 a0_9] (by rfl) rfl rfl (by (try simp only [List.map_toArray, List.map_cons, List.map_nil]); first | done | rfl | (simp only [List.length_drop, List.length_take]; rfl)) ?_
                              with_reducible refine (tenancyref04_Put32.calls k a0_9 t262 _ A15.out).mono ?_
                              rintro e w41 ⟨rfl, hb⟩
                              refine ⟨_, rfl, ?_⟩
                              have n0_ := Aside0.mk (Kd.R_below (by (with_reducible repeat (first | apply Kd.R_alloc | apply Kd.R_drewN | apply Kd.R_drew)); exact HO256.out) hb)
                              have n1_ := Aside0.mk (blk_below (g := gb250) (o := .cells #[.int .u8 a0_0, .int .u8 a0_1, .int .u8 a0_2, .int .u8 a0_3, .int .u32 a0_4, .int .u16 a0_5, .int .u16 a0_6, .int .u32 a0_7, .int .u32 a0_8, .int .u32 a0_9, .int .u32 a0_10, .string a0_11, .string a0_12, .string a0_13, .slice A0_14 l0_14.length c0_14] 26 (0, 0)) (by (with_reducible repeat (first | refine blk_drewN ?_ _ | refine blk_drew ?_ | refine blk_alloc ?_ _)); exact BK250.out) hb)
                              have n2_ := Aside0.mk (below_step (by repeat (first | (with_reducible first | exact HB.out | apply below_alloc | apply pw_below_drewN | apply below_drew1 | refine below_set ?_ GE250.out) | exact HB.out)) hb)
                              clear HO256
                              clear BK250
                              clear HB
                              have HO256 := n0_
                              have BK250 := n1_
                              have HB := n2_
                              clear n0_ n1_ n2_
                              (try clear hb)
                              (try clear hb2)
                              (try clear hk)
                              (try clear hi)
                              refine hK.out _ _ ⟨(blk_cell BK250.out 0).trans rfl, (blk_cell BK250.out 1).trans rfl, (blk_cell BK250.out 2).trans rfl, (blk_cell BK250.out 3).trans rfl, (blk_cell BK250.out 4).trans rfl, (blk_cell BK250.out 5).trans rfl, (blk_cell BK250.out 6).trans rfl, (blk_cell BK250.out 7).trans rfl, (blk_cell BK250.out 8).trans rfl, (blk_cell BK250.out 9).trans rfl, (blk_cell BK250.out 10).trans rfl, (blk_cell BK250.out 11).trans rfl, (blk_cell BK250.out 12).trans rfl, (blk_cell BK250.out 13).trans rfl, (blk_cell BK250.out 14).trans rfl⟩ (fun hHeld => ?_)
                              clear hK K
                              refine norm_ (a' := ?_) ?_ ?_
                              rotate_left
                              · show Act.put _ (some 50) _ = _
                                simp only [Act.put, List.setIfInBounds_toArray, List.set_cons_zero, List.set_cons_succ, i64_w, i32_w]
                                rfl
                              refine pure_ (i := 12) (N := some 51) (v := ?_) (a' := ?_) #[true, true, true, true, true, true, true, true, true, true, true, true, true, true, true, false, false, false] rfl rfl (any_of HT_.out (by kernel_rfl)) (fun _ _ _ h => h) (Or.inl ⟨by rfl, ?_⟩) ?_ ?_
                              rotate_left
                              · intro w'
                                go_simp
                                with_reducible rfl
                              rotate_left
                              · simp only [Act.put, List.setIfInBounds_toArray, List.set_cons_zero, List.set_cons_succ, i64_w, i32_w]
                                rfl
                              refine one_ (i := 15) (N := some 54) #[true, true, true, true, true, true, true, true, true, true, true, true, true, true, true, true, false, false] rfl rfl (one_of HT_.out (by kernel_rfl)) (by decide) (fun K hK => ?_)
                              refine goes_ Try.func30 (by kernel_rfl) rfl #[.int .u32 a0_10] (by rfl) rfl rfl (by (try simp only [List.map_toArray, List.map_cons, List.map_nil]); first | done | rfl | (simp only [List.length_drop, List.length_take]; rfl)) ?_
                              with_reducible refine (tenancyref04_Put32.calls k a0_10 t263 _ A17.out).mono ?_
                              rintro e w42 ⟨rfl, hb⟩
                              refine ⟨_, rfl, ?_⟩
                              have n0_ := Aside0.mk (Kd.R_below (by (with_reducible repeat (first | apply Kd.R_alloc | apply Kd.R_drewN | apply Kd.R_drew)); exact HO256.out) hb)
                              have n1_ := Aside0.mk (blk_below (g := gb250) (o := .cells #[.int .u8 a0_0, .int .u8 a0_1, .int .u8 a0_2, .int .u8 a0_3, .int .u32 a0_4, .int .u16 a0_5, .int .u16 a0_6, .int .u32 a0_7, .int .u32 a0_8, .int .u32 a0_9, .int .u32 a0_10, .string a0_11, .string a0_12, .string a0_13, .slice A0_14 l0_14.length c0_14] 26 (0, 0)) (by (with_reducible repeat (first | refine blk_drewN ?_ _ | refine blk_drew ?_ | refine blk_alloc ?_ _)); exact BK250.out) hb)
                              have n2_ := Aside0.mk (below_step (by repeat (first | (with_reducible first | exact HB.out | apply below_alloc | apply pw_below_drewN | apply below_drew1 | refine below_set ?_ GE250.out) | exact HB.out)) hb)
                              clear HO256
                              clear BK250
                              clear HB
                              have HO256 := n0_
                              have BK250 := n1_
                              have HB := n2_
                              clear n0_ n1_ n2_
                              (try clear hb)
                              (try clear hb2)
                              (try clear hk)
                              (try clear hi)
                              refine hK.out _ _ ⟨(blk_cell BK250.out 0).trans rfl, (blk_cell BK250.out 1).trans rfl, (blk_cell BK250.out 2).trans rfl, (blk_cell BK250.out 3).trans rfl, (blk_cell BK250.out 4).trans rfl, (blk_cell BK250.out 5).trans rfl, (blk_cell BK250.out 6).trans rfl, (blk_cell BK250.out 7).trans rfl, (blk_cell BK250.out 8).trans rfl, (blk_cell BK250.out 9).trans rfl, (blk_cell BK250.out 10).trans rfl, (blk_cell BK250.out 11).trans rfl, (blk_cell BK250.out 12).trans rfl, (blk_cell BK250.out 13).trans rfl, (blk_cell BK250.out 14).trans rfl⟩ (fun hHeld => ?_)
                              clear hK K
                              refine norm_ (a' := ?_) ?_ ?_
                              rotate_left
                              · show Act.put _ (some 54) _ = _
                                simp only [Act.put, List.setIfInBounds_toArray, List.set_cons_zero, List.set_cons_succ, i64_w, i32_w]
                                rfl
                              refine pure_ (i := 16) (N := some 55) (v := ?_) (a' := ?_) #[true, true, true, true, true, true, true, true, true, true, true, true, true, true, true, true, true, false] rfl rfl (any_of HT_.out (by kernel_rfl)) (fun _ _ _ h => h) (Or.inl ⟨by rfl, ?_⟩) ?_ ?_
                              rotate_left
                              · intro w'
                                go_simp
                                with_reducible rfl
                              rotate_left
                              · simp only [Act.put, List.setIfInBounds_toArray, List.set_cons_zero, List.set_cons_succ, i64_w, i32_w]
                                rfl
                              refine pure_ (i := 17) (N := some 6) (v := ?_) (a' := ?_) #[true, true, true, true, true, true, true, true, true, true, true, true, true, true, true, true, true, true] rfl rfl (any_of HT_.out (by kernel_rfl)) (fun _ _ _ h => h) (Or.inl ⟨by rfl, ?_⟩) ?_ ?_
                              rotate_left
                              · intro w'
                                go_simp
                                with_reducible rfl
                              rotate_left
                              · simp only [Act.put, List.setIfInBounds_toArray, List.set_cons_zero, List.set_cons_succ, i64_w, i32_w]
                                rfl
                              refine done_ (done_of HT_.out (by kernel_rfl)) ?_
                              obtain ⟨hcz43_0, hcz43_1, hcz43_2, hcz43_3, hcz43_4, hcz43_5, hcz43_6, hcz43_7, hcz43_8, hcz43_9, hcz43_10, hcz43_11, hcz43_12, hcz43_13, hcz43_14⟩ := XRun.bc15 BK250.out
                              obtain ⟨hfz43_0, hfz43_1, hfz43_2, hfz43_3, hfz43_4, hfz43_5, hfz43_6, hfz43_7, hfz43_8, hfz43_9, hfz43_10, hfz43_11, hfz43_12, hfz43_13, hfz43_14⟩ := XRun.bf15 BK250.out
                              try go_wp2
                              go_ret2
                              exact ⟨by first | rfl | (simp [errW_none, errW_some] <;> rfl) | (simp [*, errW_none, errW_some] <;> rfl), by repeat (first | (with_reducible first | exact HB.out | apply below_alloc | apply pw_below_drewN | apply below_drew1 | refine below_set ?_ GE250.out) | exact HB.out)⟩
                            · rw [if_neg c24] at H
                              have c24b0 : decide (65507 < ((((((((((((((strOfNums y254) ++ t257) ++ t258) ++ t259) ++ t260) ++ t261) ++ t262) ++ t263) ++ a0_11) ++ a0_12) ++ a0_13) ++ (⟨#[99, 130, 83, 99]⟩ : ByteArray)) ++ t252).size : Int)) = false := decide_eq_false c24
                              have c24b1 : decide (65507 < (((((((((((((strOfNums y254) ++ t257) ++ t258) ++ t259) ++ t260) ++ t261) ++ t262) ++ t263) ++ a0_11) ++ a0_12) ++ a0_13) ++ (⟨#[99, 130, 83, 99]⟩ : ByteArray)) ++ t252).size) = false := decide_eq_false (by omega)
                              have c24z := of_decide_eq_false c24b0
                              simp only [ByteArray.size_append, Int.natCast_add, show ((⟨#[99, 130, 83, 99]⟩ : ByteArray).size : Int) = 4 from rfl, Int.not_lt] at c24z
                              have c24y := eq_false (Int.not_lt.mpr c24z)
                              replace c24z := eq_true c24z
                              clear c24
                              simp only [Option.some.injEq, Prod.mk.injEq] at H
                              obtain ⟨rfl, rfl⟩ := H
                              go_enter Try.func13, Try.ntmps13
                              try go_wp2_with (first | ((with_reducible refine gate_dst (N := 1) rfl ?_); refine box_event ?hg (N := 1) ?hd (cs := #[.int .u8 a0_0, .int .u8 a0_1, .int .u8 a0_2, .int .u8 a0_3, .int .u32 a0_4, .int .u16 a0_5, .int .u16 a0_6, .int .u32 a0_7, .int .u32 a0_8, .int .u32 a0_9, .int .u32 a0_10, .string a0_11, .string a0_12, .string a0_13, .slice A0_14 l0_14.length c0_14]) (t := 26) ?hr ?_; (case hd => rfl); (case hg => rfl); (case hr => first | (go_simp; done) | (go_simp; rfl)); intro gb250 hg w44 hbox hb; have n0_ := Aside0.mk (below_step (by repeat (first | (with_reducible first | exact HB.out | apply below_alloc | apply pw_below_drewN | apply below_drew1) | exact HB.out)) hb); have n1_ := Aside0.mk (hbox); have n2_ := Aside0.mk ((by rw [hg]; exact (below_size (by repeat (first | (with_reducible first | exact HB.out | apply below_alloc | apply pw_below_drewN | apply below_drew1) | exact HB.out))) : w.heap.size ≤ gb250)); have n3_ := Aside0.mk ((by rw [hg]; exact (below_size (by repeat (first | (with_reducible first | exact HB.out | apply below_alloc | apply pw_below_drewN | apply below_drew1) | exact HB.out))) : w.heap.size ≤ gb250)); clear HB; have HB := n0_; have BK250 := n1_; have GW250 := n2_; have GE250 := n3_; clear n0_ n1_ n2_ n3_; clear hb hbox hg; obtain ⟨hcz45_0, hcz45_1, hcz45_2, hcz45_3, hcz45_4, hcz45_5, hcz45_6, hcz45_7, hcz45_8, hcz45_9, hcz45_10, hcz45_11, hcz45_12, hcz45_13, hcz45_14⟩ := XRun.bc15 BK250.out; obtain ⟨hfz45_0, hfz45_1, hfz45_2, hfz45_3, hfz45_4, hfz45_5, hfz45_6, hfz45_7, hfz45_8, hfz45_9, hfz45_10, hfz45_11, hfz45_12, hfz45_13, hfz45_14⟩ := XRun.bf15 BK250.out) | ((with_reducible refine gate_callee (f := 15) rfl ?_); refine goesL_ (some 8) rfl rfl Try.func15 (by kernel_rfl) rfl #[.agg #[.int .u8 a0_0, .int .u8 a0_1, .int .u8 a0_2, .int .u8 a0_3, .int .u32 a0_4, .int .u16 a0_5, .int .u16 a0_6, .int .u32 a0_7, .int .u32 a0_8, .int .u32 a0_9, .int .u32 a0_10, .string a0_11, .string a0_12, .string a0_13, .slice A0_14 l0_14.length c0_14]] rfl (by (try simp only [List.map_toArray, List.map_cons, List.map_nil]); first | done | rfl | (simp only [List.length_drop, List.length_take]; rfl)) ?_; (with_reducible refine (tenancyref14_Sound.calls k a0_0 a0_1 a0_2 a0_3 a0_4 a0_5 a0_6 a0_7 a0_8 a0_9 a0_10 a0_11 a0_12 a0_13 _ _ l0_14 true _ ?side1 ?side2 A2.out).mono ?_); (case side1 => repeat (first | exact (Kd.C_below HR0_14.out HB.out) | (with_reducible refine Kd.C_alloc ?_ _) | (with_reducible refine Kd.C_drewN ?_ _) | (with_reducible refine Kd.C_drew ?_))); (case side2 => exact HC0_14.out); rintro e w46 ⟨rfl, hb⟩; refine ⟨_, rfl, ?_⟩; have n0_ := Aside0.mk (blk_below (g := gb250) (o := .cells #[.int .u8 a0_0, .int .u8 a0_1, .int .u8 a0_2, .int .u8 a0_3, .int .u32 a0_4, .int .u16 a0_5, .int .u16 a0_6, .int .u32 a0_7, .int .u32 a0_8, .int .u32 a0_9, .int .u32 a0_10, .string a0_11, .string a0_12, .string a0_13, .slice A0_14 l0_14.length c0_14] 26 (0, 0)) (by (with_reducible repeat (first | refine blk_drewN ?_ _ | refine blk_drew ?_ | refine blk_alloc ?_ _)); exact BK250.out) hb); have n1_ := Aside0.mk (below_step (by repeat (first | (with_reducible first | exact HB.out | apply below_alloc | apply pw_below_drewN | apply below_drew1 | refine below_set ?_ GE250.out) | exact HB.out)) hb); clear BK250; clear HB; have BK250 := n0_; have HB := n1_; clear n0_ n1_; (try clear hb); (try clear hb2); (try clear hk); (try clear hi); obtain ⟨hcz47_0, hcz47_1, hcz47_2, hcz47_3, hcz47_4, hcz47_5, hcz47_6, hcz47_7, hcz47_8, hcz47_9, hcz47_10, hcz47_11, hcz47_12, hcz47_13, hcz47_14⟩ := XRun.bc15 BK250.out; obtain ⟨hfz47_0, hfz47_1, hfz47_2, hfz47_3, hfz47_4, hfz47_5, hfz47_6, hfz47_7, hfz47_8, hfz47_9, hfz47_10, hfz47_11, hfz47_12, hfz47_13, hfz47_14⟩ := XRun.bf15 BK250.out) | ((with_reducible refine gate_callee (f := 29) rfl ?_); refine goesL_ (some 13) rfl rfl Try.func29 (by kernel_rfl) rfl #[.slice A0_14 l0_14.length c0_14] rfl (by (try simp only [List.map_toArray, List.map_cons, List.map_nil]); first | done | rfl | (simp only [List.length_drop, List.length_take]; rfl)) ?_; (with_reducible refine (tenancyref13_Emit.calls k _ _ l0_14 t252 t253 _ ?side1 ?side2 A4.out).mono ?_); (case side1 => repeat (first | exact (Kd.C_below HR0_14.out HB.out) | (with_reducible refine Kd.C_alloc ?_ _) | (with_reducible refine Kd.C_drewN ?_ _) | (with_reducible refine Kd.C_drew ?_))); (case side2 => exact HC0_14.out); rintro e w48 ⟨rfl, hb⟩; refine ⟨_, rfl, ?_⟩; have n0_ := Aside0.mk (blk_below (g := gb250) (o := .cells #[.int .u8 a0_0, .int .u8 a0_1, .int .u8 a0_2, .int .u8 a0_3, .int .u32 a0_4, .int .u16 a0_5, .int .u16 a0_6, .int .u32 a0_7, .int .u32 a0_8, .int .u32 a0_9, .int .u32 a0_10, .string a0_11, .string a0_12, .string a0_13, .slice A0_14 l0_14.length c0_14] 26 (0, 0)) (by (with_reducible repeat (first | refine blk_drewN ?_ _ | refine blk_drew ?_ | refine blk_alloc ?_ _)); exact BK250.out) hb); have n1_ := Aside0.mk (below_step (by repeat (first | (with_reducible first | exact HB.out | apply below_alloc | apply pw_below_drewN | apply below_drew1 | refine below_set ?_ GE250.out) | exact HB.out)) hb); clear BK250; clear HB; have BK250 := n0_; have HB := n1_; clear n0_ n1_; (try clear hb); (try clear hb2); (try clear hk); (try clear hi); obtain ⟨hcz49_0, hcz49_1, hcz49_2, hcz49_3, hcz49_4, hcz49_5, hcz49_6, hcz49_7, hcz49_8, hcz49_9, hcz49_10, hcz49_11, hcz49_12, hcz49_13, hcz49_14⟩ := XRun.bc15 BK250.out; obtain ⟨hfz49_0, hfz49_1, hfz49_2, hfz49_3, hfz49_4, hfz49_5, hfz49_6, hfz49_7, hfz49_8, hfz49_9, hfz49_10, hfz49_11, hfz49_12, hfz49_13, hfz49_14⟩ := XRun.bf15 BK250.out) | ((with_reducible refine gate_dst (N := 24) rfl ?_); refine Kd.R_lit (Kd.int .u8) _ 5 ?hg (N := 24) ?hd (xs := ([a0_0, a0_1, a0_2, a0_3] : List Int)) (inner := [.int .u8 a0_0, .int .u8 a0_1, .int .u8 a0_2, .int .u8 a0_3]) (ok := fun _ => True) (okp := fun _ => True) ?hr ?hp (fun _ hk => hk) trivial (Below.refl _ _) (Nat.le_refl _) (by simp) ?_; (case hd => rfl); (case hg => rfl); (case hr => first | (go_simp; done) | (go_simp; rfl)); (case hp => exact (Reps.one (show Kd.M (Kd.int .u8) _ _ _ a0_0 [.int .u8 a0_0] from rfl) (Reps.one (show Kd.M (Kd.int .u8) _ _ _ a0_1 [.int .u8 a0_1] from rfl) (Reps.one (show Kd.M (Kd.int .u8) _ _ _ a0_2 [.int .u8 a0_2] from rfl) (Reps.one (show Kd.M (Kd.int .u8) _ _ _ a0_3 [.int .u8 a0_3] from rfl) (Reps.none _ _)))))); intro v255 w50 ho51 hb hg_ hnew_; clear hg_ hnew_; (first | rw [← Ny254.out] at ho51 | (simp only [Int.reduceToNat] at ho51; rw [← Ny254.out] at ho51)); have n0_ := Aside0.mk (Kd.R_lower ho51 (below_size (by repeat (first | (with_reducible first | exact HB.out | apply below_alloc | apply pw_below_drewN | apply below_drew1 | refine below_set ?_ GE250.out) | exact HB.out)))); have n1_ := Aside0.mk (blk_below (g := gb250) (o := .cells #[.int .u8 a0_0, .int .u8 a0_1, .int .u8 a0_2, .int .u8 a0_3, .int .u32 a0_4, .int .u16 a0_5, .int .u16 a0_6, .int .u32 a0_7, .int .u32 a0_8, .int .u32 a0_9, .int .u32 a0_10, .string a0_11, .string a0_12, .string a0_13, .slice A0_14 l0_14.length c0_14] 26 (0, 0)) (by (with_reducible repeat (first | refine blk_drewN ?_ _ | refine blk_drew ?_ | refine blk_alloc ?_ _)); exact BK250.out) hb); have n2_ := Aside0.mk (below_step (by repeat (first | (with_reducible first | exact HB.out | apply below_alloc | apply pw_below_drewN | apply below_drew1 | refine below_set ?_ GE250.out) | exact HB.out)) hb); clear BK250; clear HB; have HO256 := n0_; have BK250 := n1_; have HB := n2_; clear n0_ n1_ n2_; clear hb ho51; have hcv52 := own_string (P := Try.prog) Try.underlying39 Try.underlying5 Try.underlying9 (Kd.own_of_R HO256.out)))
                              have n0_ := Aside0.mk (Kd.R_drew HO256.out)
                              have n1_ := Aside0.mk (blk_drew BK250.out)
                              have n2_ := Aside0.mk (below_drew1 HB.out)
                              clear HO256
                              clear BK250
                              clear HB
                              have HO256 := n0_
                              have BK250 := n1_
                              have HB := n2_
                              clear n0_ n1_ n2_
                              refine start_ (n := 14) (S := fun w' => w'.cell? ⟨gb250, 0, none⟩ = some (.int .u8 a0_0) ∧ w'.cell? ⟨gb250, 1, none⟩ = some (.int .u8 a0_1) ∧ w'.cell? ⟨gb250, 2, none⟩ = some (.int .u8 a0_2) ∧ w'.cell? ⟨gb250, 3, none⟩ = some (.int .u8 a0_3) ∧ w'.cell? ⟨gb250, 4, none⟩ = some (.int .u32 a0_4) ∧ w'.cell? ⟨gb250, 5, none⟩ = some (.int .u16 a0_5) ∧ w'.cell? ⟨gb250, 6, none⟩ = some (.int .u16 a0_6) ∧ w'.cell? ⟨gb250, 7, none⟩ = some (.int .u32 a0_7) ∧ w'.cell? ⟨gb250, 8, none⟩ = some (.int .u32 a0_8) ∧ w'.cell? ⟨gb250, 9, none⟩ = some (.int .u32 a0_9) ∧ w'.cell? ⟨gb250, 10, none⟩ = some (.int .u32 a0_10) ∧ w'.cell? ⟨gb250, 11, none⟩ = some (.string a0_11) ∧ w'.cell? ⟨gb250, 12, none⟩ = some (.string a0_12) ∧ w'.cell? ⟨gb250, 13, none⟩ = some (.string a0_13) ∧ w'.cell? ⟨gb250, 14, none⟩ = some (.slice A0_14 l0_14.length c0_14)) (ds := []) #[false, false, false, false, false, false, false, false, false, false, false, false, false, false] (by kernel_rfl) rfl rfl ⟨(blk_cell BK250.out 0).trans rfl, (blk_cell BK250.out 1).trans rfl, (blk_cell BK250.out 2).trans rfl, (blk_cell BK250.out 3).trans rfl, (blk_cell BK250.out 4).trans rfl, (blk_cell BK250.out 5).trans rfl, (blk_cell BK250.out 6).trans rfl, (blk_cell BK250.out 7).trans rfl, (blk_cell BK250.out 8).trans rfl, (blk_cell BK250.out 9).trans rfl, (blk_cell BK250.out 10).trans rfl, (blk_cell BK250.out 11).trans rfl, (blk_cell BK250.out 12).trans rfl, (blk_cell BK250.out 13).trans rfl, (blk_cell BK250.out 14).trans rfl⟩ (fun hHeld => ?_); refine with_tabW tenancyref14_Encode.tab5 tenancyref14_Encode.bits5 (fun HT_ HW_ => ?_)
                              generalize w50.drew = w53 at HO256 BK250 HB hHeld ⊢
                              refine pure_ (i := 0) (N := some 26) (v := ?_) (a' := ?_) #[true, false, false, false, false, false, false, false, false, false, false, false, false, false] rfl rfl (any_of HT_.out (by kernel_rfl)) (fun _ _ _ h => h) (Or.inl ⟨by rfl, ?_⟩) ?_ ?_
                              rotate_left
                              · intro w'
                                go_simp
                                with_reducible rfl
                              rotate_left
                              · simp only [Act.put, List.setIfInBounds_toArray, List.set_cons_zero, List.set_cons_succ, i64_w, i32_w]
                                rfl
                              refine pure_ (i := 1) (N := some 27) (v := ?_) (a' := ?_) #[true, true, false, false, false, false, false, false, false, false, false, false, false, false] rfl rfl (any_of HT_.out (by kernel_rfl)) (fun _ _ _ h => h) (Or.inl ⟨by rfl, ?_⟩) ?_ ?_
                              rotate_left
                              · intro w'
                                go_simp
                                with_reducible rfl
                              rotate_left
                              · simp only [Act.put, List.setIfInBounds_toArray, List.set_cons_zero, List.set_cons_succ, i64_w, i32_w]
                                rfl
                              refine pure_ (i := 5) (N := some 31) (v := ?_) (a' := ?_) #[true, true, false, false, false, true, false, false, false, false, false, false, false, false] rfl rfl (any_of HT_.out (by kernel_rfl)) (fun _ _ _ h => h) (Or.inl ⟨by rfl, ?_⟩) ?_ ?_
                              rotate_left
                              · intro w'
                                go_simp
                                with_reducible rfl
                              rotate_left
                              · simp only [Act.put, List.setIfInBounds_toArray, List.set_cons_zero, List.set_cons_succ, i64_w, i32_w]
                                rfl
                              refine pure_ (i := 9) (N := some 35) (v := ?_) (a' := ?_) #[true, true, false, false, false, true, false, false, false, true, false, false, false, false] rfl rfl (any_of HT_.out (by kernel_rfl)) (fun _ _ _ h => h) (Or.inl ⟨by rfl, ?_⟩) ?_ ?_
                              rotate_left
                              · intro w'
                                go_simp
                                with_reducible rfl
                              rotate_left
                              · simp only [Act.put, List.setIfInBounds_toArray, List.set_cons_zero, List.set_cons_succ, i64_w, i32_w]
                                rfl
                              refine take_ (i := 2) (N := some 28) (v := ?_) (a' := ?_) #[true, true, true, false, false, true, false, false, false, true, false, false, false, false] rfl rfl (take_ofW HT_.out HW_.out (by kernel_rfl)) (fun _ _ _ h => h) (Or.inl ⟨by rfl, ?_⟩) hHeld ?_ ?_
                              rotate_left
                              · rintro w' ⟨s0, s1, s2, s3, s4, s5, s6, s7, s8, s9, s10, s11, s12, s13, s14⟩
                                go_simp
                                with_reducible rfl
                              rotate_left
                              · simp only [Act.put, List.setIfInBounds_toArray, List.set_cons_zero, List.set_cons_succ, i64_w, i32_w]
                                rfl
                              refine take_ (i := 6) (N := some 32) (v := ?_) (a' := ?_) #[true, true, true, false, false, true, true, false, false, true, false, false, false, false] rfl rfl (take_ofW HT_.out HW_.out (by kernel_rfl)) (fun _ _ _ h => h) (Or.inl ⟨by rfl, ?_⟩) hHeld ?_ ?_
                              rotate_left
                              · rintro w' ⟨s0, s1, s2, s3, s4, s5, s6, s7, s8, s9, s10, s11, s12, s13, s14⟩
                                go_simp
                                with_reducible rfl
                              rotate_left
                              · simp only [Act.put, List.setIfInBounds_toArray, List.set_cons_zero, List.set_cons_succ, i64_w, i32_w]
                                rfl
                              refine take_ (i := 10) (N := some 36) (v := ?_) (a' := ?_) #[true, true, true, false, false, true, true, false, false, true, true, false, false, false] rfl rfl (take_ofW HT_.out HW_.out (by kernel_rfl)) (fun _ _ _ h => h) (Or.inl ⟨by rfl, ?_⟩) hHeld ?_ ?_
                              rotate_left
                              · rintro w' ⟨s0, s1, s2, s3, s4, s5, s6, s7, s8, s9, s10, s11, s12, s13, s14⟩
                                go_simp
                                with_reducible rfl
                              rotate_left
                              · simp only [Act.put, List.setIfInBounds_toArray, List.set_cons_zero, List.set_cons_succ, i64_w, i32_w]
                                rfl
                              refine one_ (i := 3) (N := some 29) #[true, true, true, true, false, true, true, false, false, true, true, false, false, false] rfl rfl (one_of HT_.out (by kernel_rfl)) (by decide) (fun K hK => ?_)
                              refine goes_ Try.func30 (by kernel_rfl) rfl #[.int .u32 a0_4] (by rfl) rfl rfl (by (try simp only [List.map_toArray, List.map_cons, List.map_nil]); first | done | rfl | (simp only [List.length_drop, List.length_take]; rfl)) ?_
                              with_reducible refine (tenancyref04_Put32.calls k a0_4 t257 _ A5.out).mono ?_
                              rintro e w54 ⟨rfl, hb⟩
                              refine ⟨_, rfl, ?_⟩
                              have n0_ := Aside0.mk (Kd.R_below (by (with_reducible repeat (first | apply Kd.R_alloc | apply Kd.R_drewN | apply Kd.R_drew)); exact HO256.out) hb)
                              have n1_ := Aside0.mk (blk_below (g := gb250) (o := .cells #[.int .u8 a0_0, .int .u8 a0_1, .int .u8 a0_2, .int .u8 a0_3, .int .u32 a0_4, .int .u16 a0_5, .int .u16 a0_6, .int .u32 a0_7, .int .u32 a0_8, .int .u32 a0_9, .int .u32 a0_10, .string a0_11, .string a0_12, .string a0_13, .slice A0_14 l0_14.length c0_14] 26 (0, 0)) (by (with_reducible repeat (first | refine blk_drewN ?_ _ | refine blk_drew ?_ | refine blk_alloc ?_ _)); exact BK250.out) hb)
                              have n2_ := Aside0.mk (below_step (by repeat (first | (with_reducible first | exact HB.out | apply below_alloc | apply pw_below_drewN | apply below_drew1 | refine below_set ?_ GE250.out) | exact HB.out)) hb)
                              clear HO256
                              clear BK250
                              clear HB
                              have HO256 := n0_
                              have BK250 := n1_
                              have HB := n2_
                              clear n0_ n1_ n2_
                              (try clear hb)
                              (try clear hb2)
                              (try clear hk)
                              (try clear hi)
                              refine hK.out _ _ ⟨(blk_cell BK250.out 0).trans rfl, (blk_cell BK250.out 1).trans rfl, (blk_cell BK250.out 2).trans rfl, (blk_cell BK250.out 3).trans rfl, (blk_cell BK250.out 4).trans rfl, (blk_cell BK250.out 5).trans rfl, (blk_cell BK250.out 6).trans rfl, (blk_cell BK250.out 7).trans rfl, (blk_cell BK250.out 8).trans rfl, (blk_cell BK250.out 9).trans rfl, (blk_cell BK250.out 10).trans rfl, (blk_cell BK250.out 11).trans rfl, (blk_cell BK250.out 12).trans rfl, (blk_cell BK250.out 13).trans rfl, (blk_cell BK250.out 14).trans rfl⟩ (fun hHeld => ?_)
                              clear hK K
                              refine norm_ (a' := ?_) ?_ ?_
                              rotate_left
                              · show Act.put _ (some 29) _ = _
                                simp only [Act.put, List.setIfInBounds_toArray, List.set_cons_zero, List.set_cons_succ, i64_w, i32_w]
                                rfl
                              refine pure_ (i := 4) (N := some 30) (v := ?_) (a' := ?_) #[true, true, true, true, true, true, true, false, false, true, true, false, false, false] rfl rfl (any_of HT_.out (by kernel_rfl)) (fun _ _ _ h => h) (Or.inl ⟨by rfl, ?_⟩) ?_ ?_
                              rotate_left
                              · intro w'
                                go_simp
                                with_reducible rfl
                              rotate_left
                              · simp only [Act.put, List.setIfInBounds_toArray, List.set_cons_zero, List.set_cons_succ, i64_w, i32_w]
                                rfl
                              refine one_ (i := 7) (N := some 33) #[true, true, true, true, true, true, true, true, false, true, true, false, false, false] rfl rfl (one_of HT_.out (by kernel_rfl)) (by decide) (fun K hK => ?_)
                              refine goes_ Try.func31 (by kernel_rfl) rfl #[.int .u16 a0_5] (by rfl) rfl rfl (by (try simp only [List.map_toArray, List.map_cons, List.map_nil]); first | done | rfl | (simp only [List.length_drop, List.length_take]; rfl)) ?_
                              with_reducible refine (tenancyref04_Put16.calls k a0_5 t258 _ A7.out).mono ?_
                              rintro e w55 ⟨rfl, hb⟩
                              refine ⟨_, rfl, ?_⟩
                              have n0_ := Aside0.mk (Kd.R_below (by (with_reducible repeat (first | apply Kd.R_alloc | apply Kd.R_drewN | apply Kd.R_drew)); exact HO256.out) hb)
                              have n1_ := Aside0.mk (blk_below (g := gb250) (o := .cells #[.int .u8 a0_0, .int .u8 a0_1, .int .u8 a0_2, .int .u8 a0_3, .int .u32 a0_4, .int .u16 a0_5, .int .u16 a0_6, .int .u32 a0_7, .int .u32 a0_8, .int .u32 a0_9, .int .u32 a0_10, .string a0_11, .string a0_12, .string a0_13, .slice A0_14 l0_14.length c0_14] 26 (0, 0)) (by (with_reducible repeat (first | refine blk_drewN ?_ _ | refine blk_drew ?_ | refine blk_alloc ?_ _)); exact BK250.out) hb)
                              have n2_ := Aside0.mk (below_step (by repeat (first | (with_reducible first | exact HB.out | apply below_alloc | apply pw_below_drewN | apply below_drew1 | refine below_set ?_ GE250.out) | exact HB.out)) hb)
                              clear HO256
                              clear BK250
                              clear HB
                              have HO256 := n0_
                              have BK250 := n1_
                              have HB := n2_
                              clear n0_ n1_ n2_
                              (try clear hb)
                              (try clear hb2)
                              (try clear hk)
                              (try clear hi)
                              refine hK.out _ _ ⟨(blk_cell BK250.out 0).trans rfl, (blk_cell BK250.out 1).trans rfl, (blk_cell BK250.out 2).trans rfl, (blk_cell BK250.out 3).trans rfl, (blk_cell BK250.out 4).trans rfl, (blk_cell BK250.out 5).trans rfl, (blk_cell BK250.out 6).trans rfl, (blk_cell BK250.out 7).trans rfl, (blk_cell BK250.out 8).trans rfl, (blk_cell BK250.out 9).trans rfl, (blk_cell BK250.out 10).trans rfl, (blk_cell BK250.out 11).trans rfl, (blk_cell BK250.out 12).trans rfl, (blk_cell BK250.out 13).trans rfl, (blk_cell BK250.out 14).trans rfl⟩ (fun hHeld => ?_)
                              clear hK K
                              refine norm_ (a' := ?_) ?_ ?_
                              rotate_left
                              · show Act.put _ (some 33) _ = _
                                simp only [Act.put, List.setIfInBounds_toArray, List.set_cons_zero, List.set_cons_succ, i64_w, i32_w]
                                rfl
                              refine pure_ (i := 8) (N := some 34) (v := ?_) (a' := ?_) #[true, true, true, true, true, true, true, true, true, true, true, false, false, false] rfl rfl (any_of HT_.out (by kernel_rfl)) (fun _ _ _ h => h) (Or.inl ⟨by rfl, ?_⟩) ?_ ?_
                              rotate_left
                              · intro w'
                                go_simp
                                with_reducible rfl
                              rotate_left
                              · simp only [Act.put, List.setIfInBounds_toArray, List.set_cons_zero, List.set_cons_succ, i64_w, i32_w]
                                rfl
                              refine one_ (i := 11) (N := some 37) #[true, true, true, true, true, true, true, true, true, true, true, true, false, false] rfl rfl (one_of HT_.out (by kernel_rfl)) (by decide) (fun K hK => ?_)
                              refine goes_ Try.func31 (by kernel_rfl) rfl #[.int .u16 a0_6] (by rfl) rfl rfl (by (try simp only [List.map_toArray, List.map_cons, List.map_nil]); first | done | rfl | (simp only [List.length_drop, List.length_take]; rfl)) ?_
                              with_reducible refine (tenancyref04_Put16.calls k a0_6 t259 _ A9.out).mono ?_
                              rintro e w56 ⟨rfl, hb⟩
                              refine ⟨_, rfl, ?_⟩
                              have n0_ := Aside0.mk (Kd.R_below (by (with_reducible repeat (first | apply Kd.R_alloc | apply Kd.R_drewN | apply Kd.R_drew)); exact HO256.out) hb)
                              have n1_ := Aside0.mk (blk_below (g := gb250) (o := .cells #[.int .u8 a0_0, .int .u8 a0_1, .int .u8 a0_2, .int .u8 a0_3, .int .u32 a0_4, .int .u16 a0_5, .int .u16 a0_6, .int .u32 a0_7, .int .u32 a0_8, .int .u32 a0_9, .int .u32 a0_10, .string a0_11, .string a0_12, .string a0_13, .slice A0_14 l0_14.length c0_14] 26 (0, 0)) (by (with_reducible repeat (first | refine blk_drewN ?_ _ | refine blk_drew ?_ | refine blk_alloc ?_ _)); exact BK250.out) hb)
                              have n2_ := Aside0.mk (below_step (by repeat (first | (with_reducible first | exact HB.out | apply below_alloc | apply pw_below_drewN | apply below_drew1 | refine below_set ?_ GE250.out) | exact HB.out)) hb)
                              clear HO256
                              clear BK250
                              clear HB
                              have HO256 := n0_
                              have BK250 := n1_
                              have HB := n2_
                              clear n0_ n1_ n2_
                              (try clear hb)
                              (try clear hb2)
                              (try clear hk)
                              (try clear hi)
                              refine hK.out _ _ ⟨(blk_cell BK250.out 0).trans rfl, (blk_cell BK250.out 1).trans rfl, (blk_cell BK250.out 2).trans rfl, (blk_cell BK250.out 3).trans rfl, (blk_cell BK250.out 4).trans rfl, (blk_cell BK250.out 5).trans rfl, (blk_cell BK250.out 6).trans rfl, (blk_cell BK250.out 7).trans rfl, (blk_cell BK250.out 8).trans rfl, (blk_cell BK250.out 9).trans rfl, (blk_cell BK250.out 10).trans rfl, (blk_cell BK250.out 11).trans rfl, (blk_cell BK250.out 12).trans rfl, (blk_cell BK250.out 13).trans rfl, (blk_cell BK250.out 14).trans rfl⟩ (fun hHeld => ?_)
                              clear hK K
                              refine norm_ (a' := ?_) ?_ ?_
                              rotate_left
                              · show Act.put _ (some 37) _ = _
                                simp only [Act.put, List.setIfInBounds_toArray, List.set_cons_zero, List.set_cons_succ, i64_w, i32_w]
                                rfl
                              refine pure_ (i := 12) (N := some 38) (v := ?_) (a' := ?_) #[true, true, true, true, true, true, true, true, true, true, true, true, true, false] rfl rfl (any_of HT_.out (by kernel_rfl)) (fun _ _ _ h => h) (Or.inl ⟨by rfl, ?_⟩) ?_ ?_
                              rotate_left
                              · intro w'
                                go_simp
                                with_reducible rfl
                              rotate_left
                              · simp only [Act.put, List.setIfInBounds_toArray, List.set_cons_zero, List.set_cons_succ, i64_w, i32_w]
                                rfl
                              refine pure_ (i := 13) (N := some 6) (v := ?_) (a' := ?_) #[true, true, true, true, true, true, true, true, true, true, true, true, true, true] rfl rfl (any_of HT_.out (by kernel_rfl)) (fun _ _ _ h => h) (Or.inl ⟨by rfl, ?_⟩) ?_ ?_
                              rotate_left
                              · intro w'
                                go_simp
                                with_reducible rfl
                              rotate_left
                              · simp only [Act.put, List.setIfInBounds_toArray, List.set_cons_zero, List.set_cons_succ, i64_w, i32_w]
                                rfl
                              refine done_ (done_of HT_.out (by kernel_rfl)) ?_
                              try go_wp2
                              have n0_ := Aside0.mk (Kd.R_drew HO256.out)
                              have n1_ := Aside0.mk (blk_drew BK250.out)
                              have n2_ := Aside0.mk (below_drew1 HB.out)
                              clear HO256
                              clear BK250
                              clear HB
                              have HO256 := n0_
                              have BK250 := n1_
                              have HB := n2_
                              clear n0_ n1_ n2_
                              refine start_ (n := 18) (S := fun w' => w'.cell? ⟨gb250, 0, none⟩ = some (.int .u8 a0_0) ∧ w'.cell? ⟨gb250, 1, none⟩ = some (.int .u8 a0_1) ∧ w'.cell? ⟨gb250, 2, none⟩ = some (.int .u8 a0_2) ∧ w'.cell? ⟨gb250, 3, none⟩ = some (.int .u8 a0_3) ∧ w'.cell? ⟨gb250, 4, none⟩ = some (.int .u32 a0_4) ∧ w'.cell? ⟨gb250, 5, none⟩ = some (.int .u16 a0_5) ∧ w'.cell? ⟨gb250, 6, none⟩ = some (.int .u16 a0_6) ∧ w'.cell? ⟨gb250, 7, none⟩ = some (.int .u32 a0_7) ∧ w'.cell? ⟨gb250, 8, none⟩ = some (.int .u32 a0_8) ∧ w'.cell? ⟨gb250, 9, none⟩ = some (.int .u32 a0_9) ∧ w'.cell? ⟨gb250, 10, none⟩ = some (.int .u32 a0_10) ∧ w'.cell? ⟨gb250, 11, none⟩ = some (.string a0_11) ∧ w'.cell? ⟨gb250, 12, none⟩ = some (.string a0_12) ∧ w'.cell? ⟨gb250, 13, none⟩ = some (.string a0_13) ∧ w'.cell? ⟨gb250, 14, none⟩ = some (.slice A0_14 l0_14.length c0_14)) (ds := []) #[false, false, false, false, false, false, false, false, false, false, false, false, false, false, false, false, false, false] (by kernel_rfl) rfl rfl ⟨(blk_cell BK250.out 0).trans rfl, (blk_cell BK250.out 1).trans rfl, (blk_cell BK250.out 2).trans rfl, (blk_cell BK250.out 3).trans rfl, (blk_cell BK250.out 4).trans rfl, (blk_cell BK250.out 5).trans rfl, (blk_cell BK250.out 6).trans rfl, (blk_cell BK250.out 7).trans rfl, (blk_cell BK250.out 8).trans rfl, (blk_cell BK250.out 9).trans rfl, (blk_cell BK250.out 10).trans rfl, (blk_cell BK250.out 11).trans rfl, (blk_cell BK250.out 12).trans rfl, (blk_cell BK250.out 13).trans rfl, (blk_cell BK250.out 14).trans rfl⟩ (fun hHeld => ?_); refine with_tabW tenancyref14_Encode.tab6 tenancyref14_Encode.bits6 (fun HT_ HW_ => ?_)
                              generalize w56.drew = w57 at HO256 BK250 HB hHeld ⊢
                              refine pure_ (i := 0) (N := some 39) (v := ?_) (a' := ?_) #[true, false, false, false, false, false, false, false, false, false, false, false, false, false, false, false, false, false] rfl rfl (any_of HT_.out (by kernel_rfl)) (fun _ _ _ h => h) (Or.inl ⟨by rfl, ?_⟩) ?_ ?_
                              rotate_left
                              · intro w'
                                go_simp
                                with_reducible rfl
                              rotate_left
                              · simp only [Act.put, List.setIfInBounds_toArray, List.set_cons_zero, List.set_cons_succ, i64_w, i32_w]
                                rfl
                              refine pure_ (i := 1) (N := some 40) (v := ?_) (a' := ?_) #[true, true, false, false, false, false, false, false, false, false, false, false, false, false, false, false, false, false] rfl rfl (any_of HT_.out (by kernel_rfl)) (fun _ _ _ h => h) (Or.inl ⟨by rfl, ?_⟩) ?_ ?_
                              rotate_left
                              · intro w'
                                go_simp
                                with_reducible rfl
                              rotate_left
                              · simp only [Act.put, List.setIfInBounds_toArray, List.set_cons_zero, List.set_cons_succ, i64_w, i32_w]
                                rfl
                              refine pure_ (i := 5) (N := some 44) (v := ?_) (a' := ?_) #[true, true, false, false, false, true, false, false, false, false, false, false, false, false, false, false, false, false] rfl rfl (any_of HT_.out (by kernel_rfl)) (fun _ _ _ h => h) (Or.inl ⟨by rfl, ?_⟩) ?_ ?_
                              rotate_left
                              · intro w'
                                go_simp
                                with_reducible rfl
                              rotate_left
                              · simp only [Act.put, List.setIfInBounds_toArray, List.set_cons_zero, List.set_cons_succ, i64_w, i32_w]
                                rfl
                              refine pure_ (i := 9) (N := some 48) (v := ?_) (a' := ?_) #[true, true, false, false, false, true, false, false, false, true, false, false, false, false, false, false, false, false] rfl rfl (any_of HT_.out (by kernel_rfl)) (fun _ _ _ h => h) (Or.inl ⟨by rfl, ?_⟩) ?_ ?_
                              rotate_left
                              · intro w'
                                go_simp
                                with_reducible rfl
                              rotate_left
                              · simp only [Act.put, List.setIfInBounds_toArray, List.set_cons_zero, List.set_cons_succ, i64_w, i32_w]
                                rfl
                              refine pure_ (i := 13) (N := some 52) (v := ?_) (a' := ?_) #[true, true, false, false, false, true, false, false, false, true, false, false, false, true, false, false, false, false] rfl rfl (any_of HT_.out (by kernel_rfl)) (fun _ _ _ h => h) (Or.inl ⟨by rfl, ?_⟩) ?_ ?_
                              rotate_left
                              · intro w'
                                go_simp
                                with_reducible rfl
                              rotate_left
                              · simp only [Act.put, List.setIfInBounds_toArray, List.set_cons_zero, List.set_cons_succ, i64_w, i32_w]
                                rfl
                              refine take_ (i := 2) (N := some 41) (v := ?_) (a' := ?_) #[true, true, true, false, false, true, false, false, false, true, false, false, false, true, false, false, false, false] rfl rfl (take_ofW HT_.out HW_.out (by kernel_rfl)) (fun _ _ _ h => h) (Or.inl ⟨by rfl, ?_⟩) hHeld ?_ ?_
                              rotate_left
                              · rintro w' ⟨s0, s1, s2, s3, s4, s5, s6, s7, s8, s9, s10, s11, s12, s13, s14⟩
                                go_simp
                                with_reducible rfl
                              rotate_left
                              · simp only [Act.put, List.setIfInBounds_toArray, List.set_cons_zero, List.set_cons_succ, i64_w, i32_w]
                                rfl
                              refine take_ (i := 6) (N := some 45) (v := ?_) (a' := ?_) #[true, true, true, false, false, true, true, false, false, true, false, false, false, true, false, false, false, false] rfl rfl (take_ofW HT_.out HW_.out (by kernel_rfl)) (fun _ _ _ h => h) (Or.inl ⟨by rfl, ?_⟩) hHeld ?_ ?_
                              rotate_left
                              · rintro w' ⟨s0, s1, s2, s3, s4, s5, s6, s7, s8, s9, s10, s11, s12, s13, s14⟩
                                go_simp
                                with_reducible rfl
                              rotate_left
                              · simp only [Act.put, List.setIfInBounds_toArray, List.set_cons_zero, List.set_cons_succ, i64_w, i32_w]
                                rfl
                              refine take_ (i := 10) (N := some 49) (v := ?_) (a' := ?_) #[true, true, true, false, false, true, true, false, false, true, true, false, false, true, false, false, false, false] rfl rfl (take_ofW HT_.out HW_.out (by kernel_rfl)) (fun _ _ _ h => h) (Or.inl ⟨by rfl, ?_⟩) hHeld ?_ ?_
                              rotate_left
                              · rintro w' ⟨s0, s1, s2, s3, s4, s5, s6, s7, s8, s9, s10, s11, s12, s13, s14⟩
                                go_simp
                                with_reducible rfl
                              rotate_left
                              · simp only [Act.put, List.setIfInBounds_toArray, List.set_cons_zero, List.set_cons_succ, i64_w, i32_w]
                                rfl
                              refine take_ (i := 14) (N := some 53) (v := ?_) (a' := ?_) #[true, true, true, false, false, true, true, false, false, true, true, false, false, true, true, false, false, false] rfl rfl (take_ofW HT_.out HW_.out (by kernel_rfl)) (fun _ _ _ h => h) (Or.inl ⟨by rfl, ?_⟩) hHeld ?_ ?_
                              rotate_left
                              · rintro w' ⟨s0, s1, s2, s3, s4, s5, s6, s7, s8, s9, s10, s11, s12, s13, s14⟩
                                go_simp
                                with_reducible rfl
                              rotate_left
                              · simp only [Act.put, List.setIfInBounds_toArray, List.set_cons_zero, List.set_cons_succ, i64_w, i32_w]
                                rfl
                              refine one_ (i := 3) (N := some 42) #[true, true, true, true, false, true, true, false, false, true, true, false, false, true, true, false, false, false] rfl rfl (one_of HT_.out (by kernel_rfl)) (by decide) (fun K hK => ?_)
                              refine goes_ Try.func30 (by kernel_rfl) rfl #[.int .u32 a0_7] (by rfl) rfl rfl (by (try simp only [List.map_toArray, List.map_cons, List.map_nil]); first | done | rfl | (simp only [List.length_drop, List.length_take]; rfl)) ?_
                              with_reducible refine (tenancyref04_Put32.calls k a0_7 t260 _ A11.out).mono ?_
                              rintro e w58 ⟨rfl, hb⟩
                              refine ⟨_, rfl, ?_⟩
                              have n0_ := Aside0.mk (Kd.R_below (by (with_reducible repeat (first | apply Kd.R_alloc | apply Kd.R_drewN | apply Kd.R_drew)); exact HO256.out) hb)
                              have n1_ := Aside0.mk (blk_below (g := gb250) (o := .cells #[.int .u8 a0_0, .int .u8 a0_1, .int .u8 a0_2, .int .u8 a0_3, .int .u32 a0_4, .int .u16 a0_5, .int .u16 a0_6, .int .u32 a0_7, .int .u32 a0_8, .int .u32 a0_9, .int .u32 a0_10, .string a0_11, .string a0_12, .string a0_13, .slice A0_14 l0_14.length c0_14] 26 (0, 0)) (by (with_reducible repeat (first | refine blk_drewN ?_ _ | refine blk_drew ?_ | refine blk_alloc ?_ _)); exact BK250.out) hb)
                              have n2_ := Aside0.mk (below_step (by repeat (first | (with_reducible first | exact HB.out | apply below_alloc | apply pw_below_drewN | apply below_drew1 | refine below_set ?_ GE250.out) | exact HB.out)) hb)
                              clear HO256
                              clear BK250
                              clear HB
                              have HO256 := n0_
                              have BK250 := n1_
                              have HB := n2_
                              clear n0_ n1_ n2_
                              (try clear hb)
                              (try clear hb2)
                              (try clear hk)
                              (try clear hi)
                              refine hK.out _ _ ⟨(blk_cell BK250.out 0).trans rfl, (blk_cell BK250.out 1).trans rfl, (blk_cell BK250.out 2).trans rfl, (blk_cell BK250.out 3).trans rfl, (blk_cell BK250.out 4).trans rfl, (blk_cell BK250.out 5).trans rfl, (blk_cell BK250.out 6).trans rfl, (blk_cell BK250.out 7).trans rfl, (blk_cell BK250.out 8).trans rfl, (blk_cell BK250.out 9).trans rfl, (blk_cell BK250.out 10).trans rfl, (blk_cell BK250.out 11).trans rfl, (blk_cell BK250.out 12).trans rfl, (blk_cell BK250.out 13).trans rfl, (blk_cell BK250.out 14).trans rfl⟩ (fun hHeld => ?_)
                              clear hK K
                              refine norm_ (a' := ?_) ?_ ?_
                              rotate_left
                              · show Act.put _ (some 42) _ = _
                                simp only [Act.put, List.setIfInBounds_toArray, List.set_cons_zero, List.set_cons_succ, i64_w, i32_w]
                                rfl
                              refine pure_ (i := 4) (N := some 43) (v := ?_) (a' := ?_) #[true, true, true, true, true, true, true, false, false, true, true, false, false, true, true, false, false, false] rfl rfl (any_of HT_.out (by kernel_rfl)) (fun _ _ _ h => h) (Or.inl ⟨by rfl, ?_⟩) ?_ ?_
                              rotate_left
                              · intro w'
                                go_simp
                                with_reducible rfl
                              rotate_left
                              · simp only [Act.put, List.setIfInBounds_toArray, List.set_cons_zero, List.set_cons_succ, i64_w, i32_w]
                                rfl
                              refine one_ (i := 7) (N := some 46) #[true, true, true, true, true, true, true, true, false, true, true, false, false, true, true, false, false, false] rfl rfl (one_of HT_.out (by kernel_rfl)) (by decide) (fun K hK => ?_)
                              refine goes_ Try.func30 (by kernel_rfl) rfl #[.int .u32 a0_8] (by rfl) rfl rfl (by (try simp only [List.map_toArray, List.map_cons, List.map_nil]); first | done | rfl | (simp only [List.length_drop, List.length_take]; rfl)) ?_
                              with_reducible refine (tenancyref04_Put32.calls k a0_8 t261 _ A13.out).mono ?_
                              rintro e w59 ⟨rfl, hb⟩
                              refine ⟨_, rfl, ?_⟩
                              have n0_ := Aside0.mk (Kd.R_below (by (with_reducible repeat (first | apply Kd.R_alloc | apply Kd.R_drewN | apply Kd.R_drew)); exact HO256.out) hb)
                              have n1_ := Aside0.mk (blk_below (g := gb250) (o := .cells #[.int .u8 a0_0, .int .u8 a0_1, .int .u8 a0_2, .int .u8 a0_3, .int .u32 a0_4, .int .u16 a0_5, .int .u16 a0_6, .int .u32 a0_7, .int .u32 a0_8, .int .u32 a0_9, .int .u32 a0_10, .string a0_11, .string a0_12, .string a0_13, .slice A0_14 l0_14.length c0_14] 26 (0, 0)) (by (with_reducible repeat (first | refine blk_drewN ?_ _ | refine blk_drew ?_ | refine blk_alloc ?_ _)); exact BK250.out) hb)
                              have n2_ := Aside0.mk (below_step (by repeat (first | (with_reducible first | exact HB.out | apply below_alloc | apply pw_below_drewN | apply below_drew1 | refine below_set ?_ GE250.out) | exact HB.out)) hb)
                              clear HO256
                              clear BK250
                              clear HB
                              have HO256 := n0_
                              have BK250 := n1_
                              have HB := n2_
                              clear n0_ n1_ n2_
                              (try clear hb)
                              (try clear hb2)
                              (try clear hk)
                              (try clear hi)
                              refine hK.out _ _ ⟨(blk_cell BK250.out 0).trans rfl, (blk_cell BK250.out 1).trans rfl, (blk_cell BK250.out 2).trans rfl, (blk_cell BK250.out 3).trans rfl, (blk_cell BK250.out 4).trans rfl, (blk_cell BK250.out 5).trans rfl, (blk_cell BK250.out 6).trans rfl, (blk_cell BK250.out 7).trans rfl, (blk_cell BK250.out 8).trans rfl, (blk_cell BK250.out 9).trans rfl, (blk_cell BK250.out 10).trans rfl, (blk_cell BK250.out 11).trans rfl, (blk_cell BK250.out 12).trans rfl, (blk_cell BK250.out 13).trans rfl, (blk_cell BK250.out 14).trans rfl⟩ (fun hHeld => ?_)
                              clear hK K
                              refine norm_ (a' := ?_) ?_ ?_
                              rotate_left
                              · show Act.put _ (some 46) _ = _
                                simp only [Act.put, List.setIfInBounds_toArray, List.set_cons_zero, List.set_cons_succ, i64_w, i32_w]
                                rfl
                              refine pure_ (i := 8) (N := some 47) (v := ?_) (a' := ?_) #[true, true, true, true, true, true, true, true, true, true, true, false, false, true, true, false, false, false] rfl rfl (any_of HT_.out (by kernel_rfl)) (fun _ _ _ h => h) (Or.inl ⟨by rfl, ?_⟩) ?_ ?_
                              rotate_left
                              · intro w'
                                go_simp
                                with_reducible rfl
                              rotate_left
                              · simp only [Act.put, List.setIfInBounds_toArray, List.set_cons_zero, List.set_cons_succ, i64_w, i32_w]
                                rfl
                              refine one_ (i := 11) (N := some 50) #[true, true, true, true, true, true, true, true, true, true, true, true, false, true, true, false, false, false] rfl rfl (one_of HT_.out (by kernel_rfl)) (by decide) (fun K hK => ?_)
                              refine goes_ Try.func30 (by kernel_rfl) rfl #[.int .u32 a0_9] (by rfl) rfl rfl (by (try simp only [List.map_toArray, List.map_cons, List.map_nil]); first | done | rfl | (simp only [List.length_drop, List.length_take]; rfl)) ?_
                              with_reducible refine (tenancyref04_Put32.calls k a0_9 t262 _ A15.out).mono ?_
                              rintro e w60 ⟨rfl, hb⟩
                              refine ⟨_, rfl, ?_⟩
                              have n0_ := Aside0.mk (Kd.R_below (by (with_reducible repeat (first | apply Kd.R_alloc | apply Kd.R_drewN | apply Kd.R_drew)); exact HO256.out) hb)
                              have n1_ := Aside0.mk (blk_below (g := gb250) (o := .cells #[.int .u8 a0_0, .int .u8 a0_1, .int .u8 a0_2, .int .u8 a0_3, .int .u32 a0_4, .int .u16 a0_5, .int .u16 a0_6, .int .u32 a0_7, .int .u32 a0_8, .int .u32 a0_9, .int .u32 a0_10, .string a0_11, .string a0_12, .string a0_13, .slice A0_14 l0_14.length c0_14] 26 (0, 0)) (by (with_reducible repeat (first | refine blk_drewN ?_ _ | refine blk_drew ?_ | refine blk_alloc ?_ _)); exact BK250.out) hb)
                              have n2_ := Aside0.mk (below_step (by repeat (first | (with_reducible first | exact HB.out | apply below_alloc | apply pw_below_drewN | apply below_drew1 | refine below_set ?_ GE250.out) | exact HB.out)) hb)
                              clear HO256
                              clear BK250
                              clear HB
                              have HO256 := n0_
                              have BK250 := n1_
                              have HB := n2_
                              clear n0_ n1_ n2_
                              (try clear hb)
                              (try clear hb2)
                              (try clear hk)
                              (try clear hi)
                              refine hK.out _ _ ⟨(blk_cell BK250.out 0).trans rfl, (blk_cell BK250.out 1).trans rfl, (blk_cell BK250.out 2).trans rfl, (blk_cell BK250.out 3).trans rfl, (blk_cell BK250.out 4).trans rfl, (blk_cell BK250.out 5).trans rfl, (blk_cell BK250.out 6).trans rfl, (blk_cell BK250.out 7).trans rfl, (blk_cell BK250.out 8).trans rfl, (blk_cell BK250.out 9).trans rfl, (blk_cell BK250.out 10).trans rfl, (blk_cell BK250.out 11).trans rfl, (blk_cell BK250.out 12).trans rfl, (blk_cell BK250.out 13).trans rfl, (blk_cell BK250.out 14).trans rfl⟩ (fun hHeld => ?_)
                              clear hK K
                              refine norm_ (a' := ?_) ?_ ?_
                              rotate_left
                              · show Act.put _ (some 50) _ = _
                                simp only [Act.put, List.setIfInBounds_toArray, List.set_cons_zero, List.set_cons_succ, i64_w, i32_w]
                                rfl
                              refine pure_ (i := 12) (N := some 51) (v := ?_) (a' := ?_) #[true, true, true, true, true, true, true, true, true, true, true, true, true, true, true, false, false, false] rfl rfl (any_of HT_.out (by kernel_rfl)) (fun _ _ _ h => h) (Or.inl ⟨by rfl, ?_⟩) ?_ ?_
                              rotate_left
                              · intro w'
                                go_simp
                                with_reducible rfl
                              rotate_left
                              · simp only [Act.put, List.setIfInBounds_toArray, List.set_cons_zero, List.set_cons_succ, i64_w, i32_w]
                                rfl
                              refine one_ (i := 15) (N := some 54) #[true, true, true, true, true, true, true, true, true, true, true, true, true, true, true, true, false, false] rfl rfl (one_of HT_.out (by kernel_rfl)) (by decide) (fun K hK => ?_)
                              refine goes_ Try.func30 (by kernel_rfl) rfl #[.int .u32 a0_10] (by rfl) rfl rfl (by (try simp only [List.map_toArray, List.map_cons, List.map_nil]); first | done | rfl | (simp only [List.length_drop, List.length_take]; rfl)) ?_
                              with_reducible refine (tenancyref04_Put32.calls k a0_10 t263 _ A17.out).mono ?_
                              rintro e w61 ⟨rfl, hb⟩
                              refine ⟨_, rfl, ?_⟩
                              have n0_ := Aside0.mk (Kd.R_below (by (with_reducible repeat (first | apply Kd.R_alloc | apply Kd.R_drewN | apply Kd.R_drew)); exact HO256.out) hb)
                              have n1_ := Aside0.mk (blk_below (g := gb250) (o := .cells #[.int .u8 a0_0, .int .u8 a0_1, .int .u8 a0_2, .int .u8 a0_3, .int .u32 a0_4, .int .u16 a0_5, .int .u16 a0_6, .int .u32 a0_7, .int .u32 a0_8, .int .u32 a0_9, .int .u32 a0_10, .string a0_11, .string a0_12, .string a0_13, .slice A0_14 l0_14.length c0_14] 26 (0, 0)) (by (with_reducible repeat (first | refine blk_drewN ?_ _ | refine blk_drew ?_ | refine blk_alloc ?_ _)); exact BK250.out) hb)
                              have n2_ := Aside0.mk (below_step (by repeat (first | (with_reducible first | exact HB.out | apply below_alloc | apply pw_below_drewN | apply below_drew1 | refine below_set ?_ GE250.out) | exact HB.out)) hb)
                              clear HO256
                              clear BK250
                              clear HB
                              have HO256 := n0_
                              have BK250 := n1_
                              have HB := n2_
                              clear n0_ n1_ n2_
                              (try clear hb)
                              (try clear hb2)
                              (try clear hk)
                              (try clear hi)
                              refine hK.out _ _ ⟨(blk_cell BK250.out 0).trans rfl, (blk_cell BK250.out 1).trans rfl, (blk_cell BK250.out 2).trans rfl, (blk_cell BK250.out 3).trans rfl, (blk_cell BK250.out 4).trans rfl, (blk_cell BK250.out 5).trans rfl, (blk_cell BK250.out 6).trans rfl, (blk_cell BK250.out 7).trans rfl, (blk_cell BK250.out 8).trans rfl, (blk_cell BK250.out 9).trans rfl, (blk_cell BK250.out 10).trans rfl, (blk_cell BK250.out 11).trans rfl, (blk_cell BK250.out 12).trans rfl, (blk_cell BK250.out 13).trans rfl, (blk_cell BK250.out 14).trans rfl⟩ (fun hHeld => ?_)
                              clear hK K
                              refine norm_ (a' := ?_) ?_ ?_
                              rotate_left
                              · show Act.put _ (some 54) _ = _
                                simp only [Act.put, List.setIfInBounds_toArray, List.set_cons_zero, List.set_cons_succ, i64_w, i32_w]
                                rfl
                              refine pure_ (i := 16) (N := some 55) (v := ?_) (a' := ?_) #[true, true, true, true, true, true, true, true, true, true, true, true, true, true, true, true, true, false] rfl rfl (any_of HT_.out (by kernel_rfl)) (fun _ _ _ h => h) (Or.inl ⟨by rfl, ?_⟩) ?_ ?_
                              rotate_left
                              · intro w'
                                go_simp
                                with_reducible rfl
                              rotate_left
                              · simp only [Act.put, List.setIfInBounds_toArray, List.set_cons_zero, List.set_cons_succ, i64_w, i32_w]
                                rfl
                              refine pure_ (i := 17) (N := some 6) (v := ?_) (a' := ?_) #[true, true, true, true, true, true, true, true, true, true, true, true, true, true, true, true, true, true] rfl rfl (any_of HT_.out (by kernel_rfl)) (fun _ _ _ h => h) (Or.inl ⟨by rfl, ?_⟩) ?_ ?_
                              rotate_left
                              · intro w'
                                go_simp
                                with_reducible rfl
                              rotate_left
                              · simp only [Act.put, List.setIfInBounds_toArray, List.set_cons_zero, List.set_cons_succ, i64_w, i32_w]
                                rfl
                              refine done_ (done_of HT_.out (by kernel_rfl)) ?_
                              obtain ⟨hcz62_0, hcz62_1, hcz62_2, hcz62_3, hcz62_4, hcz62_5, hcz62_6, hcz62_7, hcz62_8, hcz62_9, hcz62_10, hcz62_11, hcz62_12, hcz62_13, hcz62_14⟩ := XRun.bc15 BK250.out
                              obtain ⟨hfz62_0, hfz62_1, hfz62_2, hfz62_3, hfz62_4, hfz62_5, hfz62_6, hfz62_7, hfz62_8, hfz62_9, hfz62_10, hfz62_11, hfz62_12, hfz62_13, hfz62_14⟩ := XRun.bf15 BK250.out
                              try go_wp2
                              go_ret2
                              exact ⟨by first | rfl | (simp [errW_none, errW_some] <;> rfl) | (simp [*, errW_none, errW_some] <;> rfl), by repeat (first | (with_reducible first | exact HB.out | apply below_alloc | apply pw_below_drewN | apply below_drew1 | refine below_set ?_ GE250.out) | exact HB.out)⟩
                          · rw [if_neg c23] at H
                            exact absurd H (by simp)
                        · rw [if_neg c22] at H
                          exact absurd H (by simp)
                      · rw [if_neg c21] at H
                        exact absurd H (by simp)
                    · rw [if_neg c20] at H
                      exact absurd H (by simp)
                  · rw [if_neg c19] at H
                    exact absurd H (by simp)
                · rw [if_neg c18] at H
                  exact absurd H (by simp)
              · rw [if_neg c16] at H
                exact absurd H (by simp)
            · rw [if_neg c14] at H
              exact absurd H (by simp)
          · rw [if_neg c12] at H
            exact absurd H (by simp)
        · rw [if_neg c10] at H
          exact absurd H (by simp)
      · rw [if_neg c8] at H
        exact absurd H (by simp)
    · rw [if_neg c6] at H
      exact absurd H (by simp)
  · replace c3 := Bool.eq_false_iff.mpr c3
    subst c3
    have H1 : (some ((⟨#[]⟩ : ByteArray), 141)) = some (r1, r2) := by rw [if_neg (show ¬ (false = true) by decide)] at H; exact H
    clear H
    have H := H1
    clear H1
    simp only [Option.some.injEq, Prod.mk.injEq] at H
    obtain ⟨rfl, rfl⟩ := H
    go_enter Try.func13, Try.ntmps13
    go_wp2_with (first | ((with_reducible refine gate_dst (N := 1) rfl ?_); refine box_event ?hg (N := 1) ?hd (cs := #[.int .u8 a0_0, .int .u8 a0_1, .int .u8 a0_2, .int .u8 a0_3, .int .u32 a0_4, .int .u16 a0_5, .int .u16 a0_6, .int .u32 a0_7, .int .u32 a0_8, .int .u32 a0_9, .int .u32 a0_10, .string a0_11, .string a0_12, .string a0_13, .slice A0_14 l0_14.length c0_14]) (t := 26) ?hr ?_; (case hd => rfl); (case hg => rfl); (case hr => first | (go_simp; done) | (go_simp; rfl)); intro gb250 hg w63 hbox hb; have n0_ := Aside0.mk (below_step (by repeat (first | (with_reducible first | exact HB.out | apply below_alloc | apply pw_below_drewN | apply below_drew1) | exact HB.out)) hb); have n1_ := Aside0.mk (hbox); have n2_ := Aside0.mk ((by rw [hg]; exact (below_size (by repeat (first | (with_reducible first | exact HB.out | apply below_alloc | apply pw_below_drewN | apply below_drew1) | exact HB.out))) : w.heap.size ≤ gb250)); have n3_ := Aside0.mk ((by rw [hg]; exact (below_size (by repeat (first | (with_reducible first | exact HB.out | apply below_alloc | apply pw_below_drewN | apply below_drew1) | exact HB.out))) : w.heap.size ≤ gb250)); clear HB; have HB := n0_; have BK250 := n1_; have GW250 := n2_; have GE250 := n3_; clear n0_ n1_ n2_ n3_; clear hb hbox hg; obtain ⟨hcz64_0, hcz64_1, hcz64_2, hcz64_3, hcz64_4, hcz64_5, hcz64_6, hcz64_7, hcz64_8, hcz64_9, hcz64_10, hcz64_11, hcz64_12, hcz64_13, hcz64_14⟩ := XRun.bc15 BK250.out; obtain ⟨hfz64_0, hfz64_1, hfz64_2, hfz64_3, hfz64_4, hfz64_5, hfz64_6, hfz64_7, hfz64_8, hfz64_9, hfz64_10, hfz64_11, hfz64_12, hfz64_13, hfz64_14⟩ := XRun.bf15 BK250.out) | ((with_reducible refine gate_callee (f := 15) rfl ?_); refine goesL_ (some 8) rfl rfl Try.func15 (by kernel_rfl) rfl #[.agg #[.int .u8 a0_0, .int .u8 a0_1, .int .u8 a0_2, .int .u8 a0_3, .int .u32 a0_4, .int .u16 a0_5, .int .u16 a0_6, .int .u32 a0_7, .int .u32 a0_8, .int .u32 a0_9, .int .u32 a0_10, .string a0_11, .string a0_12, .string a0_13, .slice A0_14 l0_14.length c0_14]] rfl (by (try simp only [List.map_toArray, List.map_cons, List.map_nil]); first | done | rfl | (simp only [List.length_drop, List.length_take]; rfl)) ?_; (with_reducible refine (tenancyref14_Sound.calls k a0_0 a0_1 a0_2 a0_3 a0_4 a0_5 a0_6 a0_7 a0_8 a0_9 a0_10 a0_11 a0_12 a0_13 _ _ l0_14 false _ ?side1 ?side2 A2.out).mono ?_); (case side1 => repeat (first | exact (Kd.C_below HR0_14.out HB.out) | (with_reducible refine Kd.C_alloc ?_ _) | (with_reducible refine Kd.C_drewN ?_ _) | (with_reducible refine Kd.C_drew ?_))); (case side2 => exact HC0_14.out); rintro e w65 ⟨rfl, hb⟩; refine ⟨_, rfl, ?_⟩; have n0_ := Aside0.mk (blk_below (g := gb250) (o := .cells #[.int .u8 a0_0, .int .u8 a0_1, .int .u8 a0_2, .int .u8 a0_3, .int .u32 a0_4, .int .u16 a0_5, .int .u16 a0_6, .int .u32 a0_7, .int .u32 a0_8, .int .u32 a0_9, .int .u32 a0_10, .string a0_11, .string a0_12, .string a0_13, .slice A0_14 l0_14.length c0_14] 26 (0, 0)) (by (with_reducible repeat (first | refine blk_drewN ?_ _ | refine blk_drew ?_ | refine blk_alloc ?_ _)); exact BK250.out) hb); have n1_ := Aside0.mk (below_step (by repeat (first | (with_reducible first | exact HB.out | apply below_alloc | apply pw_below_drewN | apply below_drew1 | refine below_set ?_ GE250.out) | exact HB.out)) hb); clear BK250; clear HB; have BK250 := n0_; have HB := n1_; clear n0_ n1_; (try clear hb); (try clear hb2); (try clear hk); (try clear hi)))
    go_ret2
    exact ⟨by first | rfl | (simp [errW_none, errW_some] <;> rfl) | (simp [*, errW_none, errW_some] <;> rfl), by repeat (first | (with_reducible first | exact HB.out | apply below_alloc | apply pw_below_drewN | apply below_drew1 | refine below_set ?_ GE250.out) | exact HB.out)⟩

end Go.Proofs.Ytdhmlenmnobmfaa.X
