/- Functions of the program as Lean functions, and that the calls come to them: no condition.  By this session's own program (wip/xprint). -/
import Derived.Test.YthadapbekmmgpaaDX0
import Derived.Test.YthadapbekmmgpaaDX1
namespace Go.Proofs.Ythadapbekmmgpaa.X
open Go.RowKit Go.Proofs.YthadapbekmmgpaaW.PrintWords Go.Proofs.YthadapbekmmgpaaW.PrintLast Go.Proofs.YthadapbekmmgpaaW.PrintMore
attribute [local go_sem] max2_int min2_int max_two min_two max_three min_three max_four min_four
set_option linter.unusedVariables false
set_option linter.unusedSimpArgs false

attribute [local go_sem high] eqA56
def octet_put_uint16.l0 : Nat → Int → Int → List Int → Int → Int → Option (ByteArray)
  | 0, _, _, _, _, _ => none
  | k + 1, x0, x1, x5, x10, x11 => if x11 < x10 then (if 0 ≤ (wrap64 (8 * (wrap64 ((wrap64 (x1 - 1)) - x11)))) then (if 0 ≤ x11 then (if x11 < (x5.length : Int) then (octet_put_uint16.l0 k x0 x1 (x5.set (x11 : Int).toNat ((shr .u16 x0 (wrap64 (8 * (wrap64 ((wrap64 (x1 - 1)) - x11))))) % 256)) x10 (wrap64 (x11 + 1))) else (none)) else (none)) else (none)) else (some (strOfNums x5))
def octet_put_uint16.f (k : Nat) (a0 : Int) (a1 : Int) : Option (ByteArray) := if 0 ≤ a1 then (if (a1 : Int).toNat ≤ 281474976710656 then ((some (List.replicate (a1 : Int).toNat 0 : List Int)).bind fun y102 => (octet_put_uint16.l0 k a0 a1 y102 (y102.length : Int) 0)) else (none)) else (none)
set_option maxHeartbeats 8000000 in
set_option maxRecDepth 100000 in
theorem octet_put_uint16.calls (k : Nat) (a0 : Int) (a1 : Int) (r : ByteArray) (w : World) (h : octet_put_uint16.f k a0 a1 = some r) :
 Calls Try.prog 62 #[.int .u16 a0, .int .i64 a1] w fun e w' => e = .returned (.string r) ∧ Below w.heap.size w w' := by
 have HB := ak_ (Below.refl w.heap.size w)
 have H : (if 0 ≤ a1 then (if (a1 : Int).toNat ≤ 281474976710656 then ((some (List.replicate (a1 : Int).toNat 0 : List Int)).bind fun y102 => (octet_put_uint16.l0 k a0 a1 y102 (y102.length : Int) 0)) else (none)) else (none)) = some r := h
 clear h
 by_cases c3 : 0 ≤ a1
 ·rw [if_pos c3] at H
  have c3b0 := eq_true c3
  have c3b1 : decide (0 ≤ a1) = true := decide_eq_true c3
  clear c3
  by_cases c4 : (a1 : Int).toNat ≤ 281474976710656
  ·rw [if_pos c4] at H
   have c4b0 := eq_true c4
   have c4b1 : decide ((a1 : Int).toNat ≤ 281474976710656) = true := decide_eq_true c4
   clear c4
   obtain ⟨y102, hy102⟩ : ∃ y_ : List Int, y_ = (List.replicate (a1 : Int).toNat 0) := ⟨_, rfl⟩
   replace H : (octet_put_uint16.l0 k a0 a1 y102 (y102.length : Int) 0) = some r := by first | (have H2_ := (Option.bind_some _ _).symm.trans H; rw [hy102]; with_reducible exact H2_)
   have Ny102 := ak_ hy102
   clear hy102
   have H' := ak_ H
   clear H
   go_enter Try.func62, Try.ntmps62
   go_wp2_with (first | ((with_reducible refine gate_dst (N := 8) rfl ?_); refine Kd.R_make (Kd.int .u8) _ 5 rfl (N := 8) rfl 47 _ _ rfl a1 rfl rfl Try.underlying47 (.int .u8 0) 1 info5 rfl (by decide) (by omega) 0 (ok := fun _ => True) (okp := fun _ => True) rfl (fun _ hk => hk) trivial (of_decide_eq_true (by first | (with_reducible assumption))) (Nat.le_trans (Nat.mul_le_mul_right _ (of_decide_eq_true (by first | (with_reducible assumption)) : a1.toNat ≤ 281474976710656)) (by omega)) (Below.refl _ _) (Nat.le_refl _) ?_; intro v103 w5 ho6 hb hg_ hnew_; clear hg_ hnew_; (first | rw [← Ny102.out] at ho6); have HO104 := ak_ (Kd.R_lower ho6 (below_size HB.out)); replace HB := bs_ HB hb; clear hb ho6; obtain ⟨Ao7, co7, eo7⟩ := Kd.R_slice HO104.out; subst eo7))
   go_loopg [11] k (fun kq v11 w' => ∃ (x5_1 : List Int) (x11_1 : Int), v11 = .int .i64 x11_1 ∧ Aside0 (octet_put_uint16.l0 kq a0 a1 x5_1 (y102.length : Int) x11_1 = some r) ∧ Aside0 (kq ≤ k) ∧ Aside0 (Kd.R (Kd.int .u8) 5 w' w.heap.size (fun _ => True) (.slice Ao7 y102.length co7) x5_1) ∧ Aside0 (Below w.heap.size w w'))
   case atStart => exact ⟨(y102), (0), (by rfl), H', ⟨Nat.le_refl _⟩, ⟨by exact HO104.out⟩, ⟨by exact HB.out⟩⟩
   case round =>
   clear H'
   try clear p2
   try clear c3
   try clear c3b0
   try clear c3b1
   try clear c4
   try clear c4b0
   try clear c4b1
   try clear c6
   obtain ⟨x5_1, x11_1, rfl, HA, HK1, HO_5, HB⟩ := hrel
   have hl5_1 := (Kd.R_reads' HO_5.out).1
   rw [hl5_1] at HO_5
   (try simp only [hl5_1])
   cases gk with
   | zero => exact absurd HA.out (by simp [octet_put_uint16.l0])
   | succ k1 =>
   have H := HA.out
   clear HA
   simp only [octet_put_uint16.l0] at H
   by_cases c8 : x11_1 < (y102.length : Int)
   ·rw [if_pos c8] at H
    have c8b0 : decide (x11_1 < (y102.length : Int)) = true := decide_eq_true c8
    (try (have c8b0h := c8b0; simp only [hl5_1] at c8b0h))
    clear c8
    obtain ⟨ji9, hji9⟩ : ∃ j_ : Int, (wrap64 (8 * (wrap64 ((wrap64 (a1 - 1)) - x11_1)))) = j_ := ⟨_, rfl⟩
    replace H : (if 0 ≤ (ji9) then (if 0 ≤ x11_1 then (if x11_1 < (x5_1.length : Int) then (octet_put_uint16.l0 k1 a0 a1 (x5_1.set (x11_1 : Int).toNat ((shr .u16 a0 (ji9)) % 256)) (y102.length : Int) (wrap64 (x11_1 + 1))) else (none)) else (none)) else (none)) = some r := by first | (rw [hji9] at H; exact H)
    have hji9w : (IntKind.i64.wrap (8 * (wrap64 ((wrap64 (a1 - 1)) - x11_1)))) = ji9 := (i64_w _).trans hji9
    by_cases c10 : 0 ≤ (ji9)
    ·rw [if_pos c10] at H
     have c10b0 := eq_true c10
     have c10b1 : decide (0 ≤ (ji9)) = true := decide_eq_true c10
     (try (have c10bh := c10b0; simp only [hl5_1] at c10bh))
     (try (have c10bg := c10b1; simp only [hl5_1] at c10bg))
     clear c10
     obtain ⟨ji11, hji11⟩ : ∃ j_ : Int, (shr .u16 a0 (ji9)) = j_ := ⟨_, rfl⟩
     replace H : (if 0 ≤ x11_1 then (if x11_1 < (x5_1.length : Int) then (octet_put_uint16.l0 k1 a0 a1 (x5_1.set (x11_1 : Int).toNat ((ji11) % 256)) (y102.length : Int) (wrap64 (x11_1 + 1))) else (none)) else (none)) = some r := by first | (rw [hji11] at H; exact H)
     have hji11_ : (a0 / 2 ^ min (ji9).toNat 16) = ji11 := hji11
     have hji11z : (ji9) ≤ 16 → (a0 / 2 ^ (ji9).toNat) = ji11 := shr_small hji11
     by_cases c12 : 0 ≤ x11_1
     ·rw [if_pos c12] at H
      have c12b0 : decide (0 ≤ x11_1) = true := decide_eq_true c12
      (try (have c12b0h := c12b0; simp only [hl5_1] at c12b0h))
      clear c12
      by_cases c13 : x11_1 < (x5_1.length : Int)
      ·rw [if_pos c13] at H
       have c13b0 : decide (x11_1 < (x5_1.length : Int)) = true := decide_eq_true c13
       (try (have c13b0h := c13b0; simp only [hl5_1] at c13b0h))
       clear c13
       obtain ⟨y105, hy105⟩ : ∃ y_ : List Int, y_ = (x5_1.set (x11_1 : Int).toNat ((ji11) % 256)) := ⟨_, rfl⟩
       replace H : (octet_put_uint16.l0 k1 a0 a1 y105 (y102.length : Int) (wrap64 (x11_1 + 1))) = some r := by first | (rw [hy105]; with_reducible exact H)
       have Ny105 := ak_ hy105
       clear hy105
       have H' := ak_ H
       clear H
       have p14 : 0 ≤ (x11_1 : Int) := of_decide_eq_true (by first | (with_reducible assumption))
       have q14 : (x11_1 : Int) < ((x5_1.length : Int) : Int) := of_decide_eq_true (by first | (with_reducible assumption))
       obtain ⟨go14, co14, eo14, gb14, gl14, cl14, HG14⟩ := Kd.R_form HO_5.out (by omega)
       (first | cases eo14)
       have GB14 := ak_ gb14
       have GG14 := ak_ HG14
       clear gb14 gl14 HG14
       obtain ⟨hx14_0, hf14_0⟩ := Kd.R_celln 0 HO_5.out (x11_1 : Int) p14 q14
       replace p14 := eq_true p14
       replace q14 := eq_true q14
       have HP15 := Kd.R_putg HO_5.out (x11_1 : Int) ((ji11) % 256)
       go_wp2_with (first | ((with_reducible refine gate_store (t := 5) (p := 24) rfl ?_); refine store_event (t := 5) (p := 24) (v := ?vo_w16) (w1 := (wr.setCell ⟨go14, (x11_1 : Int).toNat, none⟩ (.int .u8 ((ji11) % 256)))) ?hg ?ho ?hn ?hr ?_; (case ho => rfl); (case hg => rfl); (case hn => rfl); (case hr => go_simp; done); intro w16 hw; have hg : wr.grownBy w16 (some go14) := (by rw [hw]; exact HP15.2); have hp_ : Kd.R (Kd.int .u8) 5 w16 w.heap.size (fun _ => True) (.slice (some ⟨go14, 0, none⟩) x5_1.length co7) y105 := (by rw [hw, Ny105.out]; exact HP15.1); clear HP15; replace HO_5 := ak_ hp_; replace HB := ak_ (by rw [hw]; exact below_set (HB.out) GB14.out : Below w.heap.size w w16); clear hg hw hp_))
       (try simp only [← hl5_1])
       go_roundg k1
       case measure => have := HK1.out; omega
       case rel => exact ⟨(y105), (wrap64 (x11_1 + 1)), (by rfl), H', ⟨by have := HK1.out; omega⟩, ⟨by (try simp only [hl5_1]); exact HO_5.out⟩, ⟨by exact HB.out⟩⟩
      rw [if_neg c13] at H
      exact absurd H (by simp)
     rw [if_neg c12] at H
     exact absurd H (by simp)
    rw [if_neg c10] at H
    exact absurd H (by simp)
   rw [if_neg c8] at H
   have c8b0 : decide (x11_1 < (y102.length : Int)) = false := decide_eq_false c8
   (try (have c8b0h := c8b0; simp only [hl5_1] at c8b0h))
   clear c8
   obtain rfl := Option.some.inj H
   have hcv17 := own_string (P := Try.prog) Try.underlying47 Try.underlying5 Try.underlying9 (Kd.own_of_R HO_5.out)
   go_wp2
   go_ret
   exact ⟨by rfl, by exact HB.out⟩
  rw [if_neg c4] at H
  exact absurd H (by simp)
 rw [if_neg c3] at H
 exact absurd H (by simp)

def octet_Put16.f (k : Nat) (a0 : Int) : Option (ByteArray) := (octet_put_uint16.f k a0 2).bind fun t106 => (some t106)
set_option maxHeartbeats 8000000 in
set_option maxRecDepth 100000 in
theorem octet_Put16.calls (k : Nat) (a0 : Int) (r : ByteArray) (w : World) (h : octet_Put16.f k a0 = some r) :
 Calls Try.prog 39 #[.int .u16 a0] w fun e w' => e = .returned (.string r) ∧ Below w.heap.size w w' := by
 have HB := ak_ (Below.refl w.heap.size w)
 have H : ((octet_put_uint16.f k a0 2).bind fun t106 => (some t106)) = some r := h
 clear h
 replace H := Option.bind_eq_some_iff.mp H
 obtain ⟨t106, A20, H⟩ := H
 replace H : (some t106) = some r := H
 have A2 := ak_ A20
 clear A20
 obtain rfl := Option.some.inj H
 go_enter Try.func39, Try.ntmps39
 go_wp2_with (first | ((with_reducible refine gate_callee (f := 62) rfl ?_); refine goesL_ (some 4) rfl rfl Try.func62 (by kernel_rfl) rfl #[.int .u16 a0, .int .i64 2] rfl (by (try simp only [List.map_toArray, List.map_cons, List.map_nil]); first | rfl) ?_; (with_reducible refine (octet_put_uint16.calls k a0 2 t106 _ A2.out).mono ?_); rintro e w3 ⟨rfl, hb⟩; refine ⟨_, rfl, ?_⟩; replace HB := bs_ HB hb; (try clear hb)))
 go_ret
 exact ⟨by rfl, by exact HB.out⟩

def opt6_isCode.f (a0 : Int) : Option (Bool) := if a0 ≥ (-1) then (some (decide (a0 ≤ 65535))) else (some false)
set_option maxHeartbeats 8000000 in
set_option maxRecDepth 100000 in
theorem opt6_isCode.calls (a0 : Int) (r : Bool) (w : World) (h : opt6_isCode.f a0 = some r) :
 Calls Try.prog 63 #[.int .i64 a0] w fun e w' => e = .returned (.bool r) ∧ Drawn0 w w' := by
 have H : (if a0 ≥ (-1) then (some (decide (a0 ≤ 65535))) else (some false)) = some r := h
 clear h
 by_cases c2 : a0 ≥ (-1)
 ·rw [if_pos c2] at H
  have c2b0 : decide ((-1) ≤ a0) = true := decide_eq_true c2
  clear c2
  obtain rfl := Option.some.inj H
  go_enter Try.func63, Try.ntmps63
  go_wp2
  go_ret
  exact ⟨by rfl, by repeat (first | exact Drawn0.refl _)⟩
 rw [if_neg c2] at H
 have c2b0 : decide ((-1) ≤ a0) = false := decide_eq_false c2
 clear c2
 obtain rfl := Option.some.inj H
 go_enter Try.func63, Try.ntmps63
 go_wp2
 go_ret
 exact ⟨by rfl, by repeat (first | exact Drawn0.refl _)⟩

def opt6_PutStatus.f (k : Nat) (a0 : Int) : Option (ByteArray) := if a0 = (-1) then (some (⟨#[]⟩ : ByteArray)) else ((opt6_isCode.f a0).bind fun t107 => (if t107 = true then ((octet_Put16.f k (IntKind.u16.wrap (a0))).bind fun t108 => (some t108)) else (some (⟨#[]⟩ : ByteArray))))
set_option maxHeartbeats 8000000 in
set_option maxRecDepth 100000 in
theorem opt6_PutStatus.calls (k : Nat) (a0 : Int) (r : ByteArray) (w : World) (h : opt6_PutStatus.f k a0 = some r) :
 Calls Try.prog 42 #[.int .i64 a0] w fun e w' => e = .returned (.string r) ∧ Below w.heap.size w w' := by
 have HB := ak_ (Below.refl w.heap.size w)
 have H : (if a0 = (-1) then (some (⟨#[]⟩ : ByteArray)) else ((opt6_isCode.f a0).bind fun t107 => (if t107 = true then ((octet_Put16.f k (IntKind.u16.wrap (a0))).bind fun t108 => (some t108)) else (some (⟨#[]⟩ : ByteArray))))) = some r := h
 clear h
 by_cases c2 : a0 = (-1)
 ·rw [if_pos c2] at H
  have c2b0 : (a0 == (-1)) = true := beq_iff_eq.mpr c2
  have c2b1 : (a0 != (-1)) = false := bne_eq_false_iff_eq.mpr c2
  clear c2
  obtain rfl := Option.some.inj H
  go_enter Try.func42, Try.ntmps42
  go_wp2
  go_ret
  exact ⟨by rfl, by exact HB.out⟩
 rw [if_neg c2] at H
 have c2b0 : (a0 == (-1)) = false := beq_eq_false_iff_ne.mpr c2
 have c2b1 : (a0 != (-1)) = true := bne_iff_ne.mpr c2
 replace H := Option.bind_eq_some_iff.mp H
 obtain ⟨t107, A30, H⟩ := H
 replace H : (if t107 = true then ((octet_Put16.f k (IntKind.u16.wrap (a0))).bind fun t108 => (some t108)) else (some (⟨#[]⟩ : ByteArray))) = some r := H
 have A3 := ak_ A30
 clear A30
 by_cases c4 : t107 = true
 ·subst c4
  have H1 : ((octet_Put16.f k (IntKind.u16.wrap (a0))).bind fun t108 => (some t108)) = some r := by rw [if_pos rfl] at H; exact H
  clear H
  have H := H1
  clear H1
  replace H := Option.bind_eq_some_iff.mp H
  obtain ⟨t108, A50, H⟩ := H
  replace H : (some t108) = some r := H
  have A5 := ak_ A50
  clear A50
  obtain rfl := Option.some.inj H
  go_enter Try.func42, Try.ntmps42
  go_wp2_with (first | (go_at_call 63; (with_reducible refine (opt6_isCode.calls a0 true _ A3.out).mono ?_); rintro e w' ⟨rfl, ⟨nd, rfl⟩⟩) | ((with_reducible refine gate_callee (f := 39) rfl ?_); refine goesL_ (some 12) rfl rfl Try.func39 (by kernel_rfl) rfl #[.int .u16 (IntKind.u16.wrap (a0))] rfl (by (try simp only [List.map_toArray, List.map_cons, List.map_nil]); first | rfl) ?_; (with_reducible refine (octet_Put16.calls k (IntKind.u16.wrap (a0)) t108 _ A5.out).mono ?_); rintro e w6 ⟨rfl, hb⟩; refine ⟨_, rfl, ?_⟩; replace HB := ak_ (below_step (by repeat (first | (with_reducible first | exact HB.out | apply pw_below_drewN))) hb); (try clear hb)))
  go_ret
  exact ⟨by rfl, by exact HB.out⟩
 replace c4 := Bool.eq_false_iff.mpr c4
 subst c4
 have H1 : (some (⟨#[]⟩ : ByteArray)) = some r := by rw [if_neg (show ¬ (false = true) by decide)] at H; exact H
 clear H
 have H := H1
 clear H1
 obtain rfl := Option.some.inj H
 go_enter Try.func42, Try.ntmps42
 go_wp2_with (first | (go_at_call 63; (with_reducible refine (opt6_isCode.calls a0 false _ A3.out).mono ?_); rintro e w' ⟨rfl, ⟨nd, rfl⟩⟩))
 go_ret
 exact ⟨by rfl, by repeat (first | (with_reducible first | exact HB.out | apply pw_below_drewN))⟩

def octet_put_uint32.l0 : Nat → Int → Int → List Int → Int → Int → Option (ByteArray)
  | 0, _, _, _, _, _ => none
  | k + 1, x0, x1, x5, x10, x11 => if x11 < x10 then (if 0 ≤ (wrap64 (8 * (wrap64 ((wrap64 (x1 - 1)) - x11)))) then (if 0 ≤ x11 then (if x11 < (x5.length : Int) then (octet_put_uint32.l0 k x0 x1 (x5.set (x11 : Int).toNat ((shr .u32 x0 (wrap64 (8 * (wrap64 ((wrap64 (x1 - 1)) - x11))))) % 256)) x10 (wrap64 (x11 + 1))) else (none)) else (none)) else (none)) else (some (strOfNums x5))
def octet_put_uint32.f (k : Nat) (a0 : Int) (a1 : Int) : Option (ByteArray) := if 0 ≤ a1 then (if (a1 : Int).toNat ≤ 281474976710656 then ((some (List.replicate (a1 : Int).toNat 0 : List Int)).bind fun y109 => (octet_put_uint32.l0 k a0 a1 y109 (y109.length : Int) 0)) else (none)) else (none)
set_option maxHeartbeats 8000000 in
set_option maxRecDepth 100000 in
theorem octet_put_uint32.calls (k : Nat) (a0 : Int) (a1 : Int) (r : ByteArray) (w : World) (h : octet_put_uint32.f k a0 a1 = some r) :
 Calls Try.prog 44 #[.int .u32 a0, .int .i64 a1] w fun e w' => e = .returned (.string r) ∧ Below w.heap.size w w' := by
 have HB := ak_ (Below.refl w.heap.size w)
 have H : (if 0 ≤ a1 then (if (a1 : Int).toNat ≤ 281474976710656 then ((some (List.replicate (a1 : Int).toNat 0 : List Int)).bind fun y109 => (octet_put_uint32.l0 k a0 a1 y109 (y109.length : Int) 0)) else (none)) else (none)) = some r := h
 clear h
 by_cases c3 : 0 ≤ a1
 ·rw [if_pos c3] at H
  have c3b0 := eq_true c3
  have c3b1 : decide (0 ≤ a1) = true := decide_eq_true c3
  clear c3
  by_cases c4 : (a1 : Int).toNat ≤ 281474976710656
  ·rw [if_pos c4] at H
   have c4b0 := eq_true c4
   have c4b1 : decide ((a1 : Int).toNat ≤ 281474976710656) = true := decide_eq_true c4
   clear c4
   obtain ⟨y109, hy109⟩ : ∃ y_ : List Int, y_ = (List.replicate (a1 : Int).toNat 0) := ⟨_, rfl⟩
   replace H : (octet_put_uint32.l0 k a0 a1 y109 (y109.length : Int) 0) = some r := by first | (have H2_ := (Option.bind_some _ _).symm.trans H; rw [hy109]; with_reducible exact H2_)
   have Ny109 := ak_ hy109
   clear hy109
   have H' := ak_ H
   clear H
   go_enter Try.func44, Try.ntmps44
   go_wp2_with (first | ((with_reducible refine gate_dst (N := 8) rfl ?_); refine Kd.R_make (Kd.int .u8) _ 5 rfl (N := 8) rfl 47 _ _ rfl a1 rfl rfl Try.underlying47 (.int .u8 0) 1 info5 rfl (by decide) (by omega) 0 (ok := fun _ => True) (okp := fun _ => True) rfl (fun _ hk => hk) trivial (of_decide_eq_true (by first | (with_reducible assumption))) (Nat.le_trans (Nat.mul_le_mul_right _ (of_decide_eq_true (by first | (with_reducible assumption)) : a1.toNat ≤ 281474976710656)) (by omega)) (Below.refl _ _) (Nat.le_refl _) ?_; intro v110 w5 ho6 hb hg_ hnew_; clear hg_ hnew_; (first | rw [← Ny109.out] at ho6); have HO111 := ak_ (Kd.R_lower ho6 (below_size HB.out)); replace HB := bs_ HB hb; clear hb ho6; obtain ⟨Ao7, co7, eo7⟩ := Kd.R_slice HO111.out; subst eo7))
   go_loopg [11] k (fun kq v11 w' => ∃ (x5_1 : List Int) (x11_1 : Int), v11 = .int .i64 x11_1 ∧ Aside0 (octet_put_uint32.l0 kq a0 a1 x5_1 (y109.length : Int) x11_1 = some r) ∧ Aside0 (kq ≤ k) ∧ Aside0 (Kd.R (Kd.int .u8) 5 w' w.heap.size (fun _ => True) (.slice Ao7 y109.length co7) x5_1) ∧ Aside0 (Below w.heap.size w w'))
   case atStart => exact ⟨(y109), (0), (by rfl), H', ⟨Nat.le_refl _⟩, ⟨by exact HO111.out⟩, ⟨by exact HB.out⟩⟩
   case round =>
   clear H'
   try clear p2
   try clear c3
   try clear c3b0
   try clear c3b1
   try clear c4
   try clear c4b0
   try clear c4b1
   obtain ⟨x5_1, x11_1, rfl, HA, HK1, HO_5, HB⟩ := hrel
   have hl5_1 := (Kd.R_reads' HO_5.out).1
   rw [hl5_1] at HO_5
   (try simp only [hl5_1])
   cases gk with
   | zero => exact absurd HA.out (by simp [octet_put_uint32.l0])
   | succ k1 =>
   have H := HA.out
   clear HA
   simp only [octet_put_uint32.l0] at H
   by_cases c8 : x11_1 < (y109.length : Int)
   ·rw [if_pos c8] at H
    have c8b0 : decide (x11_1 < (y109.length : Int)) = true := decide_eq_true c8
    (try (have c8b0h := c8b0; simp only [hl5_1] at c8b0h))
    clear c8
    obtain ⟨ji9, hji9⟩ : ∃ j_ : Int, (wrap64 (8 * (wrap64 ((wrap64 (a1 - 1)) - x11_1)))) = j_ := ⟨_, rfl⟩
    replace H : (if 0 ≤ (ji9) then (if 0 ≤ x11_1 then (if x11_1 < (x5_1.length : Int) then (octet_put_uint32.l0 k1 a0 a1 (x5_1.set (x11_1 : Int).toNat ((shr .u32 a0 (ji9)) % 256)) (y109.length : Int) (wrap64 (x11_1 + 1))) else (none)) else (none)) else (none)) = some r := by first | (rw [hji9] at H; exact H)
    have hji9w : (IntKind.i64.wrap (8 * (wrap64 ((wrap64 (a1 - 1)) - x11_1)))) = ji9 := (i64_w _).trans hji9
    by_cases c10 : 0 ≤ (ji9)
    ·rw [if_pos c10] at H
     have c10b0 := eq_true c10
     have c10b1 : decide (0 ≤ (ji9)) = true := decide_eq_true c10
     (try (have c10bh := c10b0; simp only [hl5_1] at c10bh))
     (try (have c10bg := c10b1; simp only [hl5_1] at c10bg))
     clear c10
     obtain ⟨ji11, hji11⟩ : ∃ j_ : Int, (shr .u32 a0 (ji9)) = j_ := ⟨_, rfl⟩
     replace H : (if 0 ≤ x11_1 then (if x11_1 < (x5_1.length : Int) then (octet_put_uint32.l0 k1 a0 a1 (x5_1.set (x11_1 : Int).toNat ((ji11) % 256)) (y109.length : Int) (wrap64 (x11_1 + 1))) else (none)) else (none)) = some r := by first | (rw [hji11] at H; exact H)
     have hji11_ : (a0 / 2 ^ min (ji9).toNat 32) = ji11 := hji11
     have hji11z : (ji9) ≤ 32 → (a0 / 2 ^ (ji9).toNat) = ji11 := shr_small hji11
     by_cases c12 : 0 ≤ x11_1
     ·rw [if_pos c12] at H
      have c12b0 : decide (0 ≤ x11_1) = true := decide_eq_true c12
      (try (have c12b0h := c12b0; simp only [hl5_1] at c12b0h))
      clear c12
      by_cases c13 : x11_1 < (x5_1.length : Int)
      ·rw [if_pos c13] at H
       have c13b0 : decide (x11_1 < (x5_1.length : Int)) = true := decide_eq_true c13
       (try (have c13b0h := c13b0; simp only [hl5_1] at c13b0h))
       clear c13
       obtain ⟨y112, hy112⟩ : ∃ y_ : List Int, y_ = (x5_1.set (x11_1 : Int).toNat ((ji11) % 256)) := ⟨_, rfl⟩
       replace H : (octet_put_uint32.l0 k1 a0 a1 y112 (y109.length : Int) (wrap64 (x11_1 + 1))) = some r := by first | (rw [hy112]; with_reducible exact H)
       have Ny112 := ak_ hy112
       clear hy112
       have H' := ak_ H
       clear H
       have p14 : 0 ≤ (x11_1 : Int) := of_decide_eq_true (by first | (with_reducible assumption))
       have q14 : (x11_1 : Int) < ((x5_1.length : Int) : Int) := of_decide_eq_true (by first | (with_reducible assumption))
       obtain ⟨go14, co14, eo14, gb14, gl14, cl14, HG14⟩ := Kd.R_form HO_5.out (by omega)
       (first | cases eo14)
       have GB14 := ak_ gb14
       have GG14 := ak_ HG14
       clear gb14 gl14 HG14
       obtain ⟨hx14_0, hf14_0⟩ := Kd.R_celln 0 HO_5.out (x11_1 : Int) p14 q14
       replace p14 := eq_true p14
       replace q14 := eq_true q14
       have HP15 := Kd.R_putg HO_5.out (x11_1 : Int) ((ji11) % 256)
       go_wp2_with (first | ((with_reducible refine gate_store (t := 5) (p := 24) rfl ?_); refine store_event (t := 5) (p := 24) (v := ?vo_w16) (w1 := (wr.setCell ⟨go14, (x11_1 : Int).toNat, none⟩ (.int .u8 ((ji11) % 256)))) ?hg ?ho ?hn ?hr ?_; (case ho => rfl); (case hg => rfl); (case hn => rfl); (case hr => go_simp; done); intro w16 hw; have hg : wr.grownBy w16 (some go14) := (by rw [hw]; exact HP15.2); have hp_ : Kd.R (Kd.int .u8) 5 w16 w.heap.size (fun _ => True) (.slice (some ⟨go14, 0, none⟩) x5_1.length co7) y112 := (by rw [hw, Ny112.out]; exact HP15.1); clear HP15; replace HO_5 := ak_ hp_; replace HB := ak_ (by rw [hw]; exact below_set (HB.out) GB14.out : Below w.heap.size w w16); clear hg hw hp_))
       (try simp only [← hl5_1])
       go_roundg k1
       case measure => have := HK1.out; omega
       case rel => exact ⟨(y112), (wrap64 (x11_1 + 1)), (by rfl), H', ⟨by have := HK1.out; omega⟩, ⟨by (try simp only [hl5_1]); exact HO_5.out⟩, ⟨by exact HB.out⟩⟩
      rw [if_neg c13] at H
      exact absurd H (by simp)
     rw [if_neg c12] at H
     exact absurd H (by simp)
    rw [if_neg c10] at H
    exact absurd H (by simp)
   rw [if_neg c8] at H
   have c8b0 : decide (x11_1 < (y109.length : Int)) = false := decide_eq_false c8
   (try (have c8b0h := c8b0; simp only [hl5_1] at c8b0h))
   clear c8
   obtain rfl := Option.some.inj H
   have hcv17 := own_string (P := Try.prog) Try.underlying47 Try.underlying5 Try.underlying9 (Kd.own_of_R HO_5.out)
   go_wp2
   go_ret
   exact ⟨by rfl, by exact HB.out⟩
  rw [if_neg c4] at H
  exact absurd H (by simp)
 rw [if_neg c3] at H
 exact absurd H (by simp)

def octet_Put32.f (k : Nat) (a0 : Int) : Option (ByteArray) := (octet_put_uint32.f k a0 4).bind fun t113 => (some t113)
set_option maxHeartbeats 8000000 in
set_option maxRecDepth 100000 in
theorem octet_Put32.calls (k : Nat) (a0 : Int) (r : ByteArray) (w : World) (h : octet_Put32.f k a0 = some r) :
 Calls Try.prog 23 #[.int .u32 a0] w fun e w' => e = .returned (.string r) ∧ Below w.heap.size w w' := by
 have HB := ak_ (Below.refl w.heap.size w)
 have H : ((octet_put_uint32.f k a0 4).bind fun t113 => (some t113)) = some r := h
 clear h
 replace H := Option.bind_eq_some_iff.mp H
 obtain ⟨t113, A20, H⟩ := H
 replace H : (some t113) = some r := H
 have A2 := ak_ A20
 clear A20
 obtain rfl := Option.some.inj H
 go_enter Try.func23, Try.ntmps23
 go_wp2_with (first | ((with_reducible refine gate_callee (f := 44) rfl ?_); refine goesL_ (some 4) rfl rfl Try.func44 (by kernel_rfl) rfl #[.int .u32 a0, .int .i64 4] rfl (by (try simp only [List.map_toArray, List.map_cons, List.map_nil]); first | rfl) ?_; (with_reducible refine (octet_put_uint32.calls k a0 4 t113 _ A2.out).mono ?_); rintro e w3 ⟨rfl, hb⟩; refine ⟨_, rfl, ?_⟩; replace HB := bs_ HB hb; (try clear hb)))
 go_ret
 exact ⟨by rfl, by exact HB.out⟩

-- (not needed: function 87 (abi_NoEscape))

-- (not needed: function 61 (strings_Builder_copyCheck))

-- (not needed: function 38 (strings_Builder_WriteString))

-- (not needed: function 40 (strings_Builder_String))

def addr_Up.f (a0_0 : Int) (a0_1 : Int) (a1 : Int) : Option (Int × Int) := if a1 ≤ 0 then (some (a0_0, a0_1)) else (if a1 ≥ 64 then (if 0 ≤ (wrap64 (a1 - 64)) then (some (shl .u64 a0_1 (wrap64 (a1 - 64)), 0)) else (none)) else (if 0 ≤ a1 then (if 0 ≤ (wrap64 (64 - a1)) then (some (Go.bits .or .u64 (shl .u64 a0_0 a1) (shr .u64 a0_1 (wrap64 (64 - a1))), shl .u64 a0_1 a1)) else (none)) else (none)))
def addr_Up.T5 : Bool × List (List Nat × List Nat) := (true, [([], []), ([0], [0]), ([], []), ([1, 2], [1, 2]), ([], []), ([4], [4]), ([], []), ([6], [6]), ([5, 7], [5, 7]), ([3, 8], [3, 8]), ([], []), ([10], [10]), ([], []), ([11, 12], [11, 12]), ([9, 13], [9, 13]), ([14, 0, 1, 2, 3, 4, 5, 6, 7, 8, 9, 10, 11, 12, 13, 14], [14])])
def addr_Up.B5 : List Nat := [0, 1, 0, 7, 0, 16, 0, 64, 240, 511, 0, 1024, 0, 7168, 16383, 32767]
theorem addr_Up.tab5 : rtab .any (opsOf Try.f104 5) = addr_Up.T5 := by kernel_rfl
theorem addr_Up.bits5 : waitsOk addr_Up.T5.2 addr_Up.B5 = true := by kernel_rfl
set_option maxHeartbeats 8000000 in
set_option maxRecDepth 100000 in
theorem addr_Up.calls (a0_0 : Int) (a0_1 : Int) (a1 : Int) (r1 : Int) (r2 : Int) (w : World) (h : addr_Up.f a0_0 a0_1 a1 = some (r1, r2)) :
 Calls Try.prog 104 #[.agg #[.int .u64 a0_0, .int .u64 a0_1], .int .i64 a1] w fun e w' => e = .returned (.agg #[.int .u64 r1, .int .u64 r2]) ∧ Below w.heap.size w w' := by
 have hu54 := Try.underlying54
 have HB := ak_ (Below.refl w.heap.size w)
 have H : (if a1 ≤ 0 then (some (a0_0, a0_1)) else (if a1 ≥ 64 then (if 0 ≤ (wrap64 (a1 - 64)) then (some (shl .u64 a0_1 (wrap64 (a1 - 64)), 0)) else (none)) else (if 0 ≤ a1 then (if 0 ≤ (wrap64 (64 - a1)) then (some (Go.bits .or .u64 (shl .u64 a0_0 a1) (shr .u64 a0_1 (wrap64 (64 - a1))), shl .u64 a0_1 a1)) else (none)) else (none)))) = some (r1, r2) := h
 clear h
 by_cases c3 : a1 ≤ 0
 ·rw [if_pos c3] at H
  have c3b0 : decide (a1 ≤ 0) = true := decide_eq_true c3
  clear c3
  simp only [Option.some.injEq, Prod.mk.injEq] at H
  obtain ⟨rfl, rfl⟩ := H
  go_enter Try.func104, Try.ntmps104
  go_wp2_with (first | ((with_reducible refine gate_dst (N := 2) rfl ?_); refine box_event ?hg (N := 2) ?hd (cs := #[.int .u64 a0_0, .int .u64 a0_1]) (t := 54) ?hr ?_; (case hd => rfl); (case hg => rfl); (case hr => go_simp; done); intro gb114 hg w4 hbox hb; have BK114 := ak_ hbox; have GW114 := gz_ HB hg; have GE114 := gz_ HB hg; replace HB := bs_ HB hb; clear hb hbox hg) | ((with_reducible refine gate_dst (N := 4) rfl ?_); refine box_event ?hg (N := 4) ?hd (cs := #[.int .u64 0, .int .u64 0]) (t := 54) ?hr ?_; (case hd => rfl); (case hg => rfl); (case hr => go_simp; done); intro gb115 hg w5 hbox hb; have BK115 := ak_ hbox; have GW115 := gz_ HB hg; have GE115 := gz_ HB hg; replace HB := bs_ HB hb; have NB114_115 := gl_ BK114 hg; have NB115_114 := gr_ BK114 hg; replace BK114 := bb_ BK114 hb; clear hb hbox hg; have hnb6 := NB114_115.out; have hnc6 := NB115_114.out; have hz7 := bz2_ BK114; have hz8 := bz2_ BK115))
  refine bodyPost_ret (results_cell_row rfl _ _ gb115 54 #[.int .u64 a0_0, .int .u64 a0_1] (0, 0) _ rfl (by refine blk_put (cs := #[.int .u64 a0_0, .int .u64 0]) ?_ 1 _ rfl; refine blk_put (cs := #[.int .u64 0, .int .u64 0]) ?_ 0 _ rfl; exact BK115.out) Try.underlying54 rfl (by kernel_rfl)) rfl ?_
  exact ⟨by rfl, by repeat (first | (with_reducible first | exact HB.out | refine below_set ?_ GE115.out))⟩
 rw [if_neg c3] at H
 have c3b0 : decide (a1 ≤ 0) = false := decide_eq_false c3
 clear c3
 by_cases c9 : a1 ≥ 64
 ·rw [if_pos c9] at H
  have c9b0 : decide (64 ≤ a1) = true := decide_eq_true c9
  clear c9
  obtain ⟨ji10, hji10⟩ : ∃ j_ : Int, (wrap64 (a1 - 64)) = j_ := ⟨_, rfl⟩
  replace H : (if 0 ≤ (ji10) then (some (shl .u64 a0_1 (ji10), 0)) else (none)) = some (r1, r2) := by first | (rw [hji10] at H; exact H)
  have hji10w : (IntKind.i64.wrap (a1 - 64)) = ji10 := (i64_w _).trans hji10
  by_cases c11 : 0 ≤ (ji10)
  ·rw [if_pos c11] at H
   have c11b0 := eq_true c11
   have c11b1 : decide (0 ≤ (ji10)) = true := decide_eq_true c11
   clear c11
   obtain ⟨ji12, hji12⟩ : ∃ j_ : Int, (shl .u64 a0_1 (ji10)) = j_ := ⟨_, rfl⟩
   replace H : (some (ji12, 0)) = some (r1, r2) := by first | (rw [hji12] at H; exact H)
   have hji12_ : (IntKind.u64.wrap (a0_1 * 2 ^ min (ji10).toNat 64)) = ji12 := hji12
   have hji12z : (ji10) ≤ 64 → (IntKind.u64.wrap (a0_1 * 2 ^ (ji10).toNat)) = ji12 := shl_small hji12
   simp only [Option.some.injEq, Prod.mk.injEq] at H
   obtain ⟨rfl, rfl⟩ := H
   go_enter Try.func104, Try.ntmps104
   go_wp2_with (first | ((with_reducible refine gate_dst (N := 2) rfl ?_); refine box_event ?hg (N := 2) ?hd (cs := #[.int .u64 a0_0, .int .u64 a0_1]) (t := 54) ?hr ?_; (case hd => rfl); (case hg => rfl); (case hr => go_simp; done); intro gb114 hg w13 hbox hb; have BK114 := ak_ hbox; have GW114 := gz_ HB hg; have GE114 := gz_ HB hg; replace HB := bs_ HB hb; clear hb hbox hg) | ((with_reducible refine gate_dst (N := 4) rfl ?_); refine box_event ?hg (N := 4) ?hd (cs := #[.int .u64 0, .int .u64 0]) (t := 54) ?hr ?_; (case hd => rfl); (case hg => rfl); (case hr => go_simp; done); intro gb115 hg w14 hbox hb; have BK115 := ak_ hbox; have GW115 := gz_ HB hg; have GE115 := gz_ HB hg; replace HB := bs_ HB hb; have NB114_115 := gl_ BK114 hg; have NB115_114 := gr_ BK114 hg; replace BK114 := bb_ BK114 hb; clear hb hbox hg; have hnb15 := NB114_115.out; have hnc15 := NB115_114.out; have hz16 := bz2_ BK114; have hz17 := bz2_ BK115))
   refine bodyPost_ret (results_cell_row rfl _ _ gb115 54 #[.int .u64 ji12, .int .u64 0] (0, 0) _ rfl (by refine blk_put (cs := #[.int .u64 ji12, .int .u64 0]) ?_ 1 _ rfl; refine blk_put (cs := #[.int .u64 0, .int .u64 0]) ?_ 0 _ rfl; exact BK115.out) Try.underlying54 rfl (by kernel_rfl)) rfl ?_
   exact ⟨by rfl, by repeat (first | (with_reducible first | exact HB.out | refine below_set ?_ GE115.out))⟩
  rw [if_neg c11] at H
  exact absurd H (by simp)
 rw [if_neg c9] at H
 have c9b0 : decide (64 ≤ a1) = false := decide_eq_false c9
 clear c9
 by_cases c18 : 0 ≤ a1
 ·rw [if_pos c18] at H
  have c18b0 := eq_true c18
  have c18b1 : decide (0 ≤ a1) = true := decide_eq_true c18
  clear c18
  obtain ⟨ji19, hji19⟩ : ∃ j_ : Int, (shl .u64 a0_0 a1) = j_ := ⟨_, rfl⟩
  replace H : (if 0 ≤ (wrap64 (64 - a1)) then (some (Go.bits .or .u64 (ji19) (shr .u64 a0_1 (wrap64 (64 - a1))), shl .u64 a0_1 a1)) else (none)) = some (r1, r2) := by first | (rw [hji19] at H; exact H)
  have hji19_ : (IntKind.u64.wrap (a0_0 * 2 ^ min a1.toNat 64)) = ji19 := hji19
  have hji19z : a1 ≤ 64 → (IntKind.u64.wrap (a0_0 * 2 ^ a1.toNat)) = ji19 := shl_small hji19
  obtain ⟨ji20, hji20⟩ : ∃ j_ : Int, (wrap64 (64 - a1)) = j_ := ⟨_, rfl⟩
  replace H : (if 0 ≤ (ji20) then (some (Go.bits .or .u64 (ji19) (shr .u64 a0_1 (ji20)), shl .u64 a0_1 a1)) else (none)) = some (r1, r2) := by first | (rw [hji20] at H; exact H)
  have hji20w : (IntKind.i64.wrap (64 - a1)) = ji20 := (i64_w _).trans hji20
  by_cases c21 : 0 ≤ (ji20)
  ·rw [if_pos c21] at H
   have c21b0 := eq_true c21
   have c21b1 : decide (0 ≤ (ji20)) = true := decide_eq_true c21
   clear c21
   obtain ⟨ji22, hji22⟩ : ∃ j_ : Int, (shr .u64 a0_1 (ji20)) = j_ := ⟨_, rfl⟩
   replace H : (some (Go.bits .or .u64 (ji19) (ji22), shl .u64 a0_1 a1)) = some (r1, r2) := by first | (rw [hji22] at H; exact H)
   have hji22_ : (a0_1 / 2 ^ min (ji20).toNat 64) = ji22 := hji22
   have hji22z : (ji20) ≤ 64 → (a0_1 / 2 ^ (ji20).toNat) = ji22 := shr_small hji22
   have c23b0 := eq_true (of_decide_eq_true (by first | (with_reducible assumption)) : 0 ≤ a1)
   obtain ⟨ji24, hji24⟩ : ∃ j_ : Int, (shl .u64 a0_1 a1) = j_ := ⟨_, rfl⟩
   replace H : (some (Go.bits .or .u64 (ji19) (ji22), ji24)) = some (r1, r2) := by first | (rw [hji24] at H; exact H)
   have hji24_ : (IntKind.u64.wrap (a0_1 * 2 ^ min a1.toNat 64)) = ji24 := hji24
   have hji24z : a1 ≤ 64 → (IntKind.u64.wrap (a0_1 * 2 ^ a1.toNat)) = ji24 := shl_small hji24
   simp only [Option.some.injEq, Prod.mk.injEq] at H
   obtain ⟨rfl, rfl⟩ := H
   go_enter Try.func104, Try.ntmps104
   try go_wp2_with (first | ((with_reducible refine gate_dst (N := 2) rfl ?_); refine box_event ?hg (N := 2) ?hd (cs := #[.int .u64 a0_0, .int .u64 a0_1]) (t := 54) ?hr ?_; (case hd => rfl); (case hg => rfl); (case hr => go_simp; done); intro gb114 hg w25 hbox hb; have BK114 := ak_ hbox; have GW114 := gz_ HB hg; have GE114 := gz_ HB hg; replace HB := bs_ HB hb; clear hb hbox hg) | ((with_reducible refine gate_dst (N := 4) rfl ?_); refine box_event ?hg (N := 4) ?hd (cs := #[.int .u64 0, .int .u64 0]) (t := 54) ?hr ?_; (case hd => rfl); (case hg => rfl); (case hr => go_simp; done); intro gb115 hg w26 hbox hb; have BK115 := ak_ hbox; have GW115 := gz_ HB hg; have GE115 := gz_ HB hg; replace HB := bs_ HB hb; have NB114_115 := gl_ BK114 hg; have NB115_114 := gr_ BK114 hg; replace BK114 := bb_ BK114 hb; clear hb hbox hg))
   replace BK114 := ak_ (blk_drew BK114.out)
   replace BK115 := ak_ (blk_drew BK115.out)
   replace HB := ak_ (below_drew1 HB.out)
   refine start_ (n := 16) (S := fun w' => w'.cell? ⟨gb114, 0, none⟩ = some (.int .u64 a0_0) ∧ w'.cell? ⟨gb114, 1, none⟩ = some (.int .u64 a0_1)) (ds := []) #[false, false, false, false, false, false, false, false, false, false, false, false, false, false, false, false] (by kernel_rfl) rfl rfl ⟨(blk_cell BK114.out 0).trans rfl, (blk_cell BK114.out 1).trans rfl⟩ (fun hHeld => ?_); refine with_tabW addr_Up.tab5 addr_Up.bits5 (fun HT_ HW_ => ?_)
   generalize w26.drew = w27 at BK114 BK115 HB hHeld ⊢
   refine pure_ (i := 0) (N := some 18) (v := ?_) (a' := ?_) #[true, false, false, false, false, false, false, false, false, false, false, false, false, false, false, false] rfl rfl (any_of HT_.out (by kernel_rfl)) (fun _ _ _ h => h) (Or.inl ⟨by rfl, ?_⟩) ?_ ?_
   rotate_left
   ·intro w'
    go_simp
    with_reducible rfl
   rotate_left
   ·simp only [Act.put, List.setIfInBounds_toArray, List.set_cons_zero, List.set_cons_succ, i64_w, i32_w]
    rfl
   refine pure_ (i := 2) (N := some 20) (v := ?_) (a' := ?_) #[true, false, true, false, false, false, false, false, false, false, false, false, false, false, false, false] rfl rfl (any_of HT_.out (by kernel_rfl)) (fun _ _ _ h => h) (Or.inl ⟨by rfl, ?_⟩) ?_ ?_
   rotate_left
   ·intro w'
    go_simp
    with_reducible rfl
   rotate_left
   ·simp only [Act.put, List.setIfInBounds_toArray, List.set_cons_zero, List.set_cons_succ, i64_w, i32_w]
    rfl
   refine pure_ (i := 4) (N := some 22) (v := ?_) (a' := ?_) #[true, false, true, false, true, false, false, false, false, false, false, false, false, false, false, false] rfl rfl (any_of HT_.out (by kernel_rfl)) (fun _ _ _ h => h) (Or.inl ⟨by rfl, ?_⟩) ?_ ?_
   rotate_left
   ·intro w'
    go_simp
    with_reducible rfl
   rotate_left
   ·simp only [Act.put, List.setIfInBounds_toArray, List.set_cons_zero, List.set_cons_succ, i64_w, i32_w]
    rfl
   refine pure_ (i := 6) (N := some 24) (v := ?_) (a' := ?_) #[true, false, true, false, true, false, true, false, false, false, false, false, false, false, false, false] rfl rfl (any_of HT_.out (by kernel_rfl)) (fun _ _ _ h => h) (Or.inl ⟨by rfl, ?_⟩) ?_ ?_
   rotate_left
   ·intro w'
    go_simp
    with_reducible rfl
   rotate_left
   ·simp only [Act.put, List.setIfInBounds_toArray, List.set_cons_zero, List.set_cons_succ, i64_w, i32_w]
    rfl
   refine pure_ (i := 7) (N := some 25) (v := ?_) (a' := ?_) #[true, false, true, false, true, false, true, true, false, false, false, false, false, false, false, false] rfl rfl (any_of HT_.out (by kernel_rfl)) (fun _ _ _ h => h) (Or.inl ⟨by rfl, ?_⟩) ?_ ?_
   rotate_left
   ·intro w'
    go_simp
    with_reducible rfl
   rotate_left
   ·simp only [Act.put, List.setIfInBounds_toArray, List.set_cons_zero, List.set_cons_succ, i64_w, i32_w]
    rfl
   refine pure_ (i := 10) (N := some 28) (v := ?_) (a' := ?_) #[true, false, true, false, true, false, true, true, false, false, true, false, false, false, false, false] rfl rfl (any_of HT_.out (by kernel_rfl)) (fun _ _ _ h => h) (Or.inl ⟨by rfl, ?_⟩) ?_ ?_
   rotate_left
   ·intro w'
    go_simp
    with_reducible rfl
   rotate_left
   ·simp only [Act.put, List.setIfInBounds_toArray, List.set_cons_zero, List.set_cons_succ, i64_w, i32_w]
    rfl
   refine pure_ (i := 12) (N := some 30) (v := ?_) (a' := ?_) #[true, false, true, false, true, false, true, true, false, false, true, false, true, false, false, false] rfl rfl (any_of HT_.out (by kernel_rfl)) (fun _ _ _ h => h) (Or.inl ⟨by rfl, ?_⟩) ?_ ?_
   rotate_left
   ·intro w'
    go_simp
    with_reducible rfl
   rotate_left
   ·simp only [Act.put, List.setIfInBounds_toArray, List.set_cons_zero, List.set_cons_succ, i64_w, i32_w]
    rfl
   refine take_ (i := 1) (N := some 19) (v := ?_) (a' := ?_) #[true, true, true, false, true, false, true, true, false, false, true, false, true, false, false, false] rfl rfl (take_ofW HT_.out HW_.out (by kernel_rfl)) (fun _ _ _ h => h) (Or.inl ⟨by rfl, ?_⟩) hHeld ?_ ?_
   rotate_left
   ·rintro w' ⟨s0, s1⟩
    go_simp
    with_reducible rfl
   rotate_left
   ·simp only [Act.put, List.setIfInBounds_toArray, List.set_cons_zero, List.set_cons_succ, i64_w, i32_w]
    rfl
   refine pure_ (i := 3) (N := some 21) (v := ?_) (a' := ?_) #[true, true, true, true, true, false, true, true, false, false, true, false, true, false, false, false] rfl rfl (any_of HT_.out (by kernel_rfl)) (fun _ _ _ h => h) (Or.inl ⟨by rfl, ?_⟩) ?_ ?_
   rotate_left
   ·intro w'
    go_simp
    with_reducible rfl
   rotate_left
   ·simp only [Act.put, List.setIfInBounds_toArray, List.set_cons_zero, List.set_cons_succ, i64_w, i32_w]
    rfl
   refine take_ (i := 5) (N := some 23) (v := ?_) (a' := ?_) #[true, true, true, true, true, true, true, true, false, false, true, false, true, false, false, false] rfl rfl (take_ofW HT_.out HW_.out (by kernel_rfl)) (fun _ _ _ h => h) (Or.inl ⟨by rfl, ?_⟩) hHeld ?_ ?_
   rotate_left
   ·rintro w' ⟨s0, s1⟩
    go_simp
    with_reducible rfl
   rotate_left
   ·simp only [Act.put, List.setIfInBounds_toArray, List.set_cons_zero, List.set_cons_succ, i64_w, i32_w]
    rfl
   refine pure_ (i := 8) (N := some 26) (v := ?_) (a' := ?_) #[true, true, true, true, true, true, true, true, true, false, true, false, true, false, false, false] rfl rfl (any_of HT_.out (by kernel_rfl)) (fun _ _ _ h => h) (Or.inl ⟨by rfl, ?_⟩) ?_ ?_
   rotate_left
   ·intro w'
    go_simp
    with_reducible rfl
   rotate_left
   ·simp only [Act.put, List.setIfInBounds_toArray, List.set_cons_zero, List.set_cons_succ, i64_w, i32_w]
    rfl
   refine pure_ (i := 9) (N := some 27) (v := ?_) (a' := ?_) #[true, true, true, true, true, true, true, true, true, true, true, false, true, false, false, false] rfl rfl (any_of HT_.out (by kernel_rfl)) (fun _ _ _ h => h) (Or.inl ⟨by rfl, ?_⟩) ?_ ?_
   rotate_left
   ·intro w'
    go_simp
    with_reducible rfl
   rotate_left
   ·simp only [Act.put, List.setIfInBounds_toArray, List.set_cons_zero, List.set_cons_succ, i64_w, i32_w]
    rfl
   refine take_ (i := 11) (N := some 29) (v := ?_) (a' := ?_) #[true, true, true, true, true, true, true, true, true, true, true, true, true, false, false, false] rfl rfl (take_ofW HT_.out HW_.out (by kernel_rfl)) (fun _ _ _ h => h) (Or.inl ⟨by rfl, ?_⟩) hHeld ?_ ?_
   rotate_left
   ·rintro w' ⟨s0, s1⟩
    go_simp
    with_reducible rfl
   rotate_left
   ·simp only [Act.put, List.setIfInBounds_toArray, List.set_cons_zero, List.set_cons_succ, i64_w, i32_w]
    rfl
   refine pure_ (i := 13) (N := some 31) (v := ?_) (a' := ?_) #[true, true, true, true, true, true, true, true, true, true, true, true, true, true, false, false] rfl rfl (any_of HT_.out (by kernel_rfl)) (fun _ _ _ h => h) (Or.inl ⟨by rfl, ?_⟩) ?_ ?_
   rotate_left
   ·intro w'
    go_simp
    with_reducible rfl
   rotate_left
   ·simp only [Act.put, List.setIfInBounds_toArray, List.set_cons_zero, List.set_cons_succ, i64_w, i32_w]
    rfl
   refine pure_ (i := 14) (N := some 32) (v := ?_) (a' := ?_) #[true, true, true, true, true, true, true, true, true, true, true, true, true, true, true, false] rfl rfl (any_of HT_.out (by kernel_rfl)) (fun _ _ _ h => h) (Or.inl ⟨by rfl, ?_⟩) ?_ ?_
   rotate_left
   ·intro w'
    go_simp
    with_reducible rfl
   rotate_left
   ·simp only [Act.put, List.setIfInBounds_toArray, List.set_cons_zero, List.set_cons_succ, i64_w, i32_w]
    rfl
   refine one_ (i := 15) (N := none) #[true, true, true, true, true, true, true, true, true, true, true, true, true, true, true, true] rfl rfl (one_of HT_.out (by kernel_rfl)) (by decide) (fun K hK => ?_)
   have hs28 : w27.cell? ⟨gb115, 0, none⟩ = some (.int .u64 0) := (blk_cell BK115.out 0).trans rfl
   have hfs28 := blk_frozen BK115.out 0
   have hns28_0 := NB114_115.out
   have hms28_0 := NB115_114.out
   have hs29 : w27.cell? ⟨gb115, 1, none⟩ = some (.int .u64 0) := (blk_cell BK115.out 1).trans rfl
   have hfs29 := blk_frozen BK115.out 1
   have hns29_0 := NB114_115.out
   have hms29_0 := NB115_114.out
   refine skip_ (w1 := ?_) (by rfl) rfl ?_ ?_
   rotate_left
   ·go_simp
    rfl
   refine hK.out _ _ ⟨((cell_far (p := ⟨gb115, _, none⟩) NB114_115.out _).trans (((cell_far (p := ⟨gb115, _, none⟩) NB114_115.out _).trans (hHeld.1)))), ((cell_far (p := ⟨gb115, _, none⟩) NB114_115.out _).trans (((cell_far (p := ⟨gb115, _, none⟩) NB114_115.out _).trans (hHeld.2))))⟩ (fun hHeld => ?_)
   clear hK K
   refine done_ (done_of HT_.out (by kernel_rfl)) ?_
   try go_wp2
   refine bodyPost_ret (results_cell_row rfl _ _ gb115 54 #[.int .u64 (Go.bits .or .u64 (ji19) (ji22)), .int .u64 ji24] (0, 0) _ rfl (by refine blk_put (cs := #[.int .u64 (Go.bits .or .u64 (ji19) (ji22)), .int .u64 0]) ?_ 1 _ rfl; refine blk_put (cs := #[.int .u64 0, .int .u64 0]) ?_ 0 _ rfl; exact BK115.out) Try.underlying54 rfl (by kernel_rfl)) rfl ?_
   exact ⟨by rfl, by repeat (first | (with_reducible first | exact HB.out | refine below_set ?_ GE115.out))⟩
  rw [if_neg c21] at H
  exact absurd H (by simp)
 rw [if_neg c18] at H
 exact absurd H (by simp)

def addr_Down.f (a0_0 : Int) (a0_1 : Int) (a1 : Int) : Option (Int × Int) := if a1 ≤ 0 then (some (a0_0, a0_1)) else (if a1 ≥ 64 then (if 0 ≤ (wrap64 (a1 - 64)) then (some (0, shr .u64 a0_0 (wrap64 (a1 - 64)))) else (none)) else (if 0 ≤ a1 then (if 0 ≤ (wrap64 (64 - a1)) then (some (shr .u64 a0_0 a1, Go.bits .or .u64 (shr .u64 a0_1 a1) (shl .u64 a0_0 (wrap64 (64 - a1))))) else (none)) else (none)))
def addr_Down.T5 : Bool × List (List Nat × List Nat) := (true, [([], []), ([0], [0]), ([], []), ([1, 2], [1, 2]), ([], []), ([4], [4]), ([], []), ([5, 6], [5, 6]), ([], []), ([8], [8]), ([], []), ([10], [10]), ([9, 11], [9, 11]), ([7, 12], [7, 12]), ([3, 13], [3, 13]), ([14, 0, 1, 2, 3, 4, 5, 6, 7, 8, 9, 10, 11, 12, 13, 14], [14])])
def addr_Down.B5 : List Nat := [0, 1, 0, 7, 0, 16, 0, 112, 0, 256, 0, 1024, 3840, 8176, 16383, 32767]
theorem addr_Down.tab5 : rtab .any (opsOf Try.f105 5) = addr_Down.T5 := by kernel_rfl
theorem addr_Down.bits5 : waitsOk addr_Down.T5.2 addr_Down.B5 = true := by kernel_rfl
set_option maxHeartbeats 8000000 in
set_option maxRecDepth 100000 in
theorem addr_Down.calls (a0_0 : Int) (a0_1 : Int) (a1 : Int) (r1 : Int) (r2 : Int) (w : World) (h : addr_Down.f a0_0 a0_1 a1 = some (r1, r2)) :
 Calls Try.prog 105 #[.agg #[.int .u64 a0_0, .int .u64 a0_1], .int .i64 a1] w fun e w' => e = .returned (.agg #[.int .u64 r1, .int .u64 r2]) ∧ Below w.heap.size w w' := by
 have hu54 := Try.underlying54
 have HB := ak_ (Below.refl w.heap.size w)
 have H : (if a1 ≤ 0 then (some (a0_0, a0_1)) else (if a1 ≥ 64 then (if 0 ≤ (wrap64 (a1 - 64)) then (some (0, shr .u64 a0_0 (wrap64 (a1 - 64)))) else (none)) else (if 0 ≤ a1 then (if 0 ≤ (wrap64 (64 - a1)) then (some (shr .u64 a0_0 a1, Go.bits .or .u64 (shr .u64 a0_1 a1) (shl .u64 a0_0 (wrap64 (64 - a1))))) else (none)) else (none)))) = some (r1, r2) := h
 clear h
 by_cases c3 : a1 ≤ 0
 ·rw [if_pos c3] at H
  have c3b0 : decide (a1 ≤ 0) = true := decide_eq_true c3
  clear c3
  simp only [Option.some.injEq, Prod.mk.injEq] at H
  obtain ⟨rfl, rfl⟩ := H
  go_enter Try.func105, Try.ntmps105
  go_wp2_with (first | ((with_reducible refine gate_dst (N := 2) rfl ?_); refine box_event ?hg (N := 2) ?hd (cs := #[.int .u64 a0_0, .int .u64 a0_1]) (t := 54) ?hr ?_; (case hd => rfl); (case hg => rfl); (case hr => go_simp; done); intro gb116 hg w4 hbox hb; have BK116 := ak_ hbox; have GW116 := gz_ HB hg; have GE116 := gz_ HB hg; replace HB := bs_ HB hb; clear hb hbox hg) | ((with_reducible refine gate_dst (N := 4) rfl ?_); refine box_event ?hg (N := 4) ?hd (cs := #[.int .u64 0, .int .u64 0]) (t := 54) ?hr ?_; (case hd => rfl); (case hg => rfl); (case hr => go_simp; done); intro gb117 hg w5 hbox hb; have BK117 := ak_ hbox; have GW117 := gz_ HB hg; have GE117 := gz_ HB hg; replace HB := bs_ HB hb; have NB116_117 := gl_ BK116 hg; have NB117_116 := gr_ BK116 hg; replace BK116 := bb_ BK116 hb; clear hb hbox hg; have hnb6 := NB116_117.out; have hnc6 := NB117_116.out; have hz7 := bz2_ BK116; have hz8 := bz2_ BK117))
  refine bodyPost_ret (results_cell_row rfl _ _ gb117 54 #[.int .u64 a0_0, .int .u64 a0_1] (0, 0) _ rfl (by refine blk_put (cs := #[.int .u64 a0_0, .int .u64 0]) ?_ 1 _ rfl; refine blk_put (cs := #[.int .u64 0, .int .u64 0]) ?_ 0 _ rfl; exact BK117.out) Try.underlying54 rfl (by kernel_rfl)) rfl ?_
  exact ⟨by rfl, by repeat (first | (with_reducible first | exact HB.out | refine below_set ?_ GE117.out))⟩
 rw [if_neg c3] at H
 have c3b0 : decide (a1 ≤ 0) = false := decide_eq_false c3
 clear c3
 by_cases c9 : a1 ≥ 64
 ·rw [if_pos c9] at H
  have c9b0 : decide (64 ≤ a1) = true := decide_eq_true c9
  clear c9
  obtain ⟨ji10, hji10⟩ : ∃ j_ : Int, (wrap64 (a1 - 64)) = j_ := ⟨_, rfl⟩
  replace H : (if 0 ≤ (ji10) then (some (0, shr .u64 a0_0 (ji10))) else (none)) = some (r1, r2) := by first | (rw [hji10] at H; exact H)
  have hji10w : (IntKind.i64.wrap (a1 - 64)) = ji10 := (i64_w _).trans hji10
  by_cases c11 : 0 ≤ (ji10)
  ·rw [if_pos c11] at H
   have c11b0 := eq_true c11
   have c11b1 : decide (0 ≤ (ji10)) = true := decide_eq_true c11
   clear c11
   obtain ⟨ji12, hji12⟩ : ∃ j_ : Int, (shr .u64 a0_0 (ji10)) = j_ := ⟨_, rfl⟩
   replace H : (some (0, ji12)) = some (r1, r2) := by first | (rw [hji12] at H; exact H)
   have hji12_ : (a0_0 / 2 ^ min (ji10).toNat 64) = ji12 := hji12
   have hji12z : (ji10) ≤ 64 → (a0_0 / 2 ^ (ji10).toNat) = ji12 := shr_small hji12
   simp only [Option.some.injEq, Prod.mk.injEq] at H
   obtain ⟨rfl, rfl⟩ := H
   go_enter Try.func105, Try.ntmps105
   go_wp2_with (first | ((with_reducible refine gate_dst (N := 2) rfl ?_); refine box_event ?hg (N := 2) ?hd (cs := #[.int .u64 a0_0, .int .u64 a0_1]) (t := 54) ?hr ?_; (case hd => rfl); (case hg => rfl); (case hr => go_simp; done); intro gb116 hg w13 hbox hb; have BK116 := ak_ hbox; have GW116 := gz_ HB hg; have GE116 := gz_ HB hg; replace HB := bs_ HB hb; clear hb hbox hg) | ((with_reducible refine gate_dst (N := 4) rfl ?_); refine box_event ?hg (N := 4) ?hd (cs := #[.int .u64 0, .int .u64 0]) (t := 54) ?hr ?_; (case hd => rfl); (case hg => rfl); (case hr => go_simp; done); intro gb117 hg w14 hbox hb; have BK117 := ak_ hbox; have GW117 := gz_ HB hg; have GE117 := gz_ HB hg; replace HB := bs_ HB hb; have NB116_117 := gl_ BK116 hg; have NB117_116 := gr_ BK116 hg; replace BK116 := bb_ BK116 hb; clear hb hbox hg; have hnb15 := NB116_117.out; have hnc15 := NB117_116.out; have hz16 := bz2_ BK116; have hz17 := bz2_ BK117))
   refine bodyPost_ret (results_cell_row rfl _ _ gb117 54 #[.int .u64 0, .int .u64 ji12] (0, 0) _ rfl (by refine blk_put (cs := #[.int .u64 0, .int .u64 0]) ?_ 1 _ rfl; refine blk_put (cs := #[.int .u64 0, .int .u64 0]) ?_ 0 _ rfl; exact BK117.out) Try.underlying54 rfl (by kernel_rfl)) rfl ?_
   exact ⟨by rfl, by repeat (first | (with_reducible first | exact HB.out | refine below_set ?_ GE117.out))⟩
  rw [if_neg c11] at H
  exact absurd H (by simp)
 rw [if_neg c9] at H
 have c9b0 : decide (64 ≤ a1) = false := decide_eq_false c9
 clear c9
 by_cases c18 : 0 ≤ a1
 ·rw [if_pos c18] at H
  have c18b0 := eq_true c18
  have c18b1 : decide (0 ≤ a1) = true := decide_eq_true c18
  clear c18
  obtain ⟨ji19, hji19⟩ : ∃ j_ : Int, (shr .u64 a0_0 a1) = j_ := ⟨_, rfl⟩
  replace H : (if 0 ≤ (wrap64 (64 - a1)) then (some (ji19, Go.bits .or .u64 (shr .u64 a0_1 a1) (shl .u64 a0_0 (wrap64 (64 - a1))))) else (none)) = some (r1, r2) := by first | (rw [hji19] at H; exact H)
  have hji19_ : (a0_0 / 2 ^ min a1.toNat 64) = ji19 := hji19
  have hji19z : a1 ≤ 64 → (a0_0 / 2 ^ a1.toNat) = ji19 := shr_small hji19
  have c20b0 := eq_true (of_decide_eq_true (by first | (with_reducible assumption)) : 0 ≤ a1)
  obtain ⟨ji21, hji21⟩ : ∃ j_ : Int, (shr .u64 a0_1 a1) = j_ := ⟨_, rfl⟩
  replace H : (if 0 ≤ (wrap64 (64 - a1)) then (some (ji19, Go.bits .or .u64 (ji21) (shl .u64 a0_0 (wrap64 (64 - a1))))) else (none)) = some (r1, r2) := by first | (rw [hji21] at H; exact H)
  have hji21_ : (a0_1 / 2 ^ min a1.toNat 64) = ji21 := hji21
  have hji21z : a1 ≤ 64 → (a0_1 / 2 ^ a1.toNat) = ji21 := shr_small hji21
  obtain ⟨ji22, hji22⟩ : ∃ j_ : Int, (wrap64 (64 - a1)) = j_ := ⟨_, rfl⟩
  replace H : (if 0 ≤ (ji22) then (some (ji19, Go.bits .or .u64 (ji21) (shl .u64 a0_0 (ji22)))) else (none)) = some (r1, r2) := by first | (rw [hji22] at H; exact H)
  have hji22w : (IntKind.i64.wrap (64 - a1)) = ji22 := (i64_w _).trans hji22
  by_cases c23 : 0 ≤ (ji22)
  ·rw [if_pos c23] at H
   have c23b0 := eq_true c23
   have c23b1 : decide (0 ≤ (ji22)) = true := decide_eq_true c23
   clear c23
   obtain ⟨ji24, hji24⟩ : ∃ j_ : Int, (shl .u64 a0_0 (ji22)) = j_ := ⟨_, rfl⟩
   replace H : (some (ji19, Go.bits .or .u64 (ji21) (ji24))) = some (r1, r2) := by first | (rw [hji24] at H; exact H)
   have hji24_ : (IntKind.u64.wrap (a0_0 * 2 ^ min (ji22).toNat 64)) = ji24 := hji24
   have hji24z : (ji22) ≤ 64 → (IntKind.u64.wrap (a0_0 * 2 ^ (ji22).toNat)) = ji24 := shl_small hji24
   simp only [Option.some.injEq, Prod.mk.injEq] at H
   obtain ⟨rfl, rfl⟩ := H
   go_enter Try.func105, Try.ntmps105
   try go_wp2_with (first | ((with_reducible refine gate_dst (N := 2) rfl ?_); refine box_event ?hg (N := 2) ?hd (cs := #[.int .u64 a0_0, .int .u64 a0_1]) (t := 54) ?hr ?_; (case hd => rfl); (case hg => rfl); (case hr => go_simp; done); intro gb116 hg w25 hbox hb; have BK116 := ak_ hbox; have GW116 := gz_ HB hg; have GE116 := gz_ HB hg; replace HB := bs_ HB hb; clear hb hbox hg) | ((with_reducible refine gate_dst (N := 4) rfl ?_); refine box_event ?hg (N := 4) ?hd (cs := #[.int .u64 0, .int .u64 0]) (t := 54) ?hr ?_; (case hd => rfl); (case hg => rfl); (case hr => go_simp; done); intro gb117 hg w26 hbox hb; have BK117 := ak_ hbox; have GW117 := gz_ HB hg; have GE117 := gz_ HB hg; replace HB := bs_ HB hb; have NB116_117 := gl_ BK116 hg; have NB117_116 := gr_ BK116 hg; replace BK116 := bb_ BK116 hb; clear hb hbox hg))
   replace BK116 := ak_ (blk_drew BK116.out)
   replace BK117 := ak_ (blk_drew BK117.out)
   replace HB := ak_ (below_drew1 HB.out)
   refine start_ (n := 16) (S := fun w' => w'.cell? ⟨gb116, 0, none⟩ = some (.int .u64 a0_0) ∧ w'.cell? ⟨gb116, 1, none⟩ = some (.int .u64 a0_1)) (ds := []) #[false, false, false, false, false, false, false, false, false, false, false, false, false, false, false, false] (by kernel_rfl) rfl rfl ⟨(blk_cell BK116.out 0).trans rfl, (blk_cell BK116.out 1).trans rfl⟩ (fun hHeld => ?_); refine with_tabW addr_Down.tab5 addr_Down.bits5 (fun HT_ HW_ => ?_)
   generalize w26.drew = w27 at BK116 BK117 HB hHeld ⊢
   refine pure_ (i := 0) (N := some 18) (v := ?_) (a' := ?_) #[true, false, false, false, false, false, false, false, false, false, false, false, false, false, false, false] rfl rfl (any_of HT_.out (by kernel_rfl)) (fun _ _ _ h => h) (Or.inl ⟨by rfl, ?_⟩) ?_ ?_
   rotate_left
   ·intro w'
    go_simp
    with_reducible rfl
   rotate_left
   ·simp only [Act.put, List.setIfInBounds_toArray, List.set_cons_zero, List.set_cons_succ, i64_w, i32_w]
    rfl
   refine pure_ (i := 2) (N := some 20) (v := ?_) (a' := ?_) #[true, false, true, false, false, false, false, false, false, false, false, false, false, false, false, false] rfl rfl (any_of HT_.out (by kernel_rfl)) (fun _ _ _ h => h) (Or.inl ⟨by rfl, ?_⟩) ?_ ?_
   rotate_left
   ·intro w'
    go_simp
    with_reducible rfl
   rotate_left
   ·simp only [Act.put, List.setIfInBounds_toArray, List.set_cons_zero, List.set_cons_succ, i64_w, i32_w]
    rfl
   refine pure_ (i := 4) (N := some 22) (v := ?_) (a' := ?_) #[true, false, true, false, true, false, false, false, false, false, false, false, false, false, false, false] rfl rfl (any_of HT_.out (by kernel_rfl)) (fun _ _ _ h => h) (Or.inl ⟨by rfl, ?_⟩) ?_ ?_
   rotate_left
   ·intro w'
    go_simp
    with_reducible rfl
   rotate_left
   ·simp only [Act.put, List.setIfInBounds_toArray, List.set_cons_zero, List.set_cons_succ, i64_w, i32_w]
    rfl
   refine pure_ (i := 6) (N := some 24) (v := ?_) (a' := ?_) #[true, false, true, false, true, false, true, false, false, false, false, false, false, false, false, false] rfl rfl (any_of HT_.out (by kernel_rfl)) (fun _ _ _ h => h) (Or.inl ⟨by rfl, ?_⟩) ?_ ?_
   rotate_left
   ·intro w'
    go_simp
    with_reducible rfl
   rotate_left
   ·simp only [Act.put, List.setIfInBounds_toArray, List.set_cons_zero, List.set_cons_succ, i64_w, i32_w]
    rfl
   refine pure_ (i := 8) (N := some 26) (v := ?_) (a' := ?_) #[true, false, true, false, true, false, true, false, true, false, false, false, false, false, false, false] rfl rfl (any_of HT_.out (by kernel_rfl)) (fun _ _ _ h => h) (Or.inl ⟨by rfl, ?_⟩) ?_ ?_
   rotate_left
   ·intro w'
    go_simp
    with_reducible rfl
   rotate_left
   ·simp only [Act.put, List.setIfInBounds_toArray, List.set_cons_zero, List.set_cons_succ, i64_w, i32_w]
    rfl
   refine pure_ (i := 10) (N := some 28) (v := ?_) (a' := ?_) #[true, false, true, false, true, false, true, false, true, false, true, false, false, false, false, false] rfl rfl (any_of HT_.out (by kernel_rfl)) (fun _ _ _ h => h) (Or.inl ⟨by rfl, ?_⟩) ?_ ?_
   rotate_left
   ·intro w'
    go_simp
    with_reducible rfl
   rotate_left
   ·simp only [Act.put, List.setIfInBounds_toArray, List.set_cons_zero, List.set_cons_succ, i64_w, i32_w]
    rfl
   refine pure_ (i := 11) (N := some 29) (v := ?_) (a' := ?_) #[true, false, true, false, true, false, true, false, true, false, true, true, false, false, false, false] rfl rfl (any_of HT_.out (by kernel_rfl)) (fun _ _ _ h => h) (Or.inl ⟨by rfl, ?_⟩) ?_ ?_
   rotate_left
   ·intro w'
    go_simp
    with_reducible rfl
   rotate_left
   ·simp only [Act.put, List.setIfInBounds_toArray, List.set_cons_zero, List.set_cons_succ, i64_w, i32_w]
    rfl
   refine take_ (i := 1) (N := some 19) (v := ?_) (a' := ?_) #[true, true, true, false, true, false, true, false, true, false, true, true, false, false, false, false] rfl rfl (take_ofW HT_.out HW_.out (by kernel_rfl)) (fun _ _ _ h => h) (Or.inl ⟨by rfl, ?_⟩) hHeld ?_ ?_
   rotate_left
   ·rintro w' ⟨s0, s1⟩
    go_simp
    with_reducible rfl
   rotate_left
   ·simp only [Act.put, List.setIfInBounds_toArray, List.set_cons_zero, List.set_cons_succ, i64_w, i32_w]
    rfl
   refine pure_ (i := 3) (N := some 21) (v := ?_) (a' := ?_) #[true, true, true, true, true, false, true, false, true, false, true, true, false, false, false, false] rfl rfl (any_of HT_.out (by kernel_rfl)) (fun _ _ _ h => h) (Or.inl ⟨by rfl, ?_⟩) ?_ ?_
   rotate_left
   ·intro w'
    go_simp
    with_reducible rfl
   rotate_left
   ·simp only [Act.put, List.setIfInBounds_toArray, List.set_cons_zero, List.set_cons_succ, i64_w, i32_w]
    rfl
   refine take_ (i := 5) (N := some 23) (v := ?_) (a' := ?_) #[true, true, true, true, true, true, true, false, true, false, true, true, false, false, false, false] rfl rfl (take_ofW HT_.out HW_.out (by kernel_rfl)) (fun _ _ _ h => h) (Or.inl ⟨by rfl, ?_⟩) hHeld ?_ ?_
   rotate_left
   ·rintro w' ⟨s0, s1⟩
    go_simp
    with_reducible rfl
   rotate_left
   ·simp only [Act.put, List.setIfInBounds_toArray, List.set_cons_zero, List.set_cons_succ, i64_w, i32_w]
    rfl
   refine pure_ (i := 7) (N := some 25) (v := ?_) (a' := ?_) #[true, true, true, true, true, true, true, true, true, false, true, true, false, false, false, false] rfl rfl (any_of HT_.out (by kernel_rfl)) (fun _ _ _ h => h) (Or.inl ⟨by rfl, ?_⟩) ?_ ?_
   rotate_left
   ·intro w'
    go_simp
    with_reducible rfl
   rotate_left
   ·simp only [Act.put, List.setIfInBounds_toArray, List.set_cons_zero, List.set_cons_succ, i64_w, i32_w]
    rfl
   refine take_ (i := 9) (N := some 27) (v := ?_) (a' := ?_) #[true, true, true, true, true, true, true, true, true, true, true, true, false, false, false, false] rfl rfl (take_ofW HT_.out HW_.out (by kernel_rfl)) (fun _ _ _ h => h) (Or.inl ⟨by rfl, ?_⟩) hHeld ?_ ?_
   rotate_left
   ·rintro w' ⟨s0, s1⟩
    go_simp
    with_reducible rfl
   rotate_left
   ·simp only [Act.put, List.setIfInBounds_toArray, List.set_cons_zero, List.set_cons_succ, i64_w, i32_w]
    rfl
   refine pure_ (i := 12) (N := some 30) (v := ?_) (a' := ?_) #[true, true, true, true, true, true, true, true, true, true, true, true, true, false, false, false] rfl rfl (any_of HT_.out (by kernel_rfl)) (fun _ _ _ h => h) (Or.inl ⟨by rfl, ?_⟩) ?_ ?_
   rotate_left
   ·intro w'
    go_simp
    with_reducible rfl
   rotate_left
   ·simp only [Act.put, List.setIfInBounds_toArray, List.set_cons_zero, List.set_cons_succ, i64_w, i32_w]
    rfl
   refine pure_ (i := 13) (N := some 31) (v := ?_) (a' := ?_) #[true, true, true, true, true, true, true, true, true, true, true, true, true, true, false, false] rfl rfl (any_of HT_.out (by kernel_rfl)) (fun _ _ _ h => h) (Or.inl ⟨by rfl, ?_⟩) ?_ ?_
   rotate_left
   ·intro w'
    go_simp
    with_reducible rfl
   rotate_left
   ·simp only [Act.put, List.setIfInBounds_toArray, List.set_cons_zero, List.set_cons_succ, i64_w, i32_w]
    rfl
   refine pure_ (i := 14) (N := some 32) (v := ?_) (a' := ?_) #[true, true, true, true, true, true, true, true, true, true, true, true, true, true, true, false] rfl rfl (any_of HT_.out (by kernel_rfl)) (fun _ _ _ h => h) (Or.inl ⟨by rfl, ?_⟩) ?_ ?_
   rotate_left
   ·intro w'
    go_simp
    with_reducible rfl
   rotate_left
   ·simp only [Act.put, List.setIfInBounds_toArray, List.set_cons_zero, List.set_cons_succ, i64_w, i32_w]
    rfl
   refine one_ (i := 15) (N := none) #[true, true, true, true, true, true, true, true, true, true, true, true, true, true, true, true] rfl rfl (one_of HT_.out (by kernel_rfl)) (by decide) (fun K hK => ?_)
   have hs28 : w27.cell? ⟨gb117, 0, none⟩ = some (.int .u64 0) := (blk_cell BK117.out 0).trans rfl
   have hfs28 := blk_frozen BK117.out 0
   have hns28_0 := NB116_117.out
   have hms28_0 := NB117_116.out
   have hs29 : w27.cell? ⟨gb117, 1, none⟩ = some (.int .u64 0) := (blk_cell BK117.out 1).trans rfl
   have hfs29 := blk_frozen BK117.out 1
   have hns29_0 := NB116_117.out
   have hms29_0 := NB117_116.out
   refine skip_ (w1 := ?_) (by rfl) rfl ?_ ?_
   rotate_left
   ·go_simp
    rfl
   refine hK.out _ _ ⟨((cell_far (p := ⟨gb117, _, none⟩) NB116_117.out _).trans (((cell_far (p := ⟨gb117, _, none⟩) NB116_117.out _).trans (hHeld.1)))), ((cell_far (p := ⟨gb117, _, none⟩) NB116_117.out _).trans (((cell_far (p := ⟨gb117, _, none⟩) NB116_117.out _).trans (hHeld.2))))⟩ (fun hHeld => ?_)
   clear hK K
   refine done_ (done_of HT_.out (by kernel_rfl)) ?_
   try go_wp2
   refine bodyPost_ret (results_cell_row rfl _ _ gb117 54 #[.int .u64 ji19, .int .u64 (Go.bits .or .u64 (ji21) (ji24))] (0, 0) _ rfl (by refine blk_put (cs := #[.int .u64 ji19, .int .u64 0]) ?_ 1 _ rfl; refine blk_put (cs := #[.int .u64 0, .int .u64 0]) ?_ 0 _ rfl; exact BK117.out) Try.underlying54 rfl (by kernel_rfl)) rfl ?_
   exact ⟨by rfl, by repeat (first | (with_reducible first | exact HB.out | refine below_set ?_ GE117.out))⟩
  rw [if_neg c23] at H
  exact absurd H (by simp)
 rw [if_neg c18] at H
 exact absurd H (by simp)

def addr_Clip.j0 : Nat → Int → Bool → Int → Int → Option (Int × Int × Int × Bool)
  | 0, _, _, _, _ => none
  | k + 1, x1, x11, x119000, x119001 => if x11 = true then (some (0, 0, 0, false)) else ((addr_Down.f x119000 x119001 (wrap64 (128 - x1))).bind fun bt120 => ((addr_Up.f bt120.1 bt120.2 (wrap64 (128 - x1))).bind fun bt122 => (some (bt122.1, bt122.2, x1, true))))
def addr_Clip.f (k : Nat) (a0_0 : Int) (a0_1 : Int) (a1 : Int) : Option (Int × Int × Int × Bool) := if a1 < 0 then (addr_Clip.j0 k a1 true a0_0 a0_1) else (addr_Clip.j0 k a1 (decide (a1 > 128)) a0_0 a0_1)
set_option maxHeartbeats 8000000 in
set_option maxRecDepth 100000 in
theorem addr_Clip.calls (k : Nat) (a0_0 : Int) (a0_1 : Int) (a1 : Int) (r1 : Int) (r2 : Int) (r3 : Int) (r4 : Bool) (w : World) (h : addr_Clip.f k a0_0 a0_1 a1 = some (r1, r2, r3, r4)) :
 Calls Try.prog 98 #[.agg #[.int .u64 a0_0, .int .u64 a0_1], .int .i64 a1] w fun e w' => e = .returned (.tuple #[.agg #[.int .u64 r1, .int .u64 r2, .int .i64 r3], .bool r4]) ∧ Below w.heap.size w w' := by
 have hu54 := Try.underlying54
 have hu56 := Try.underlying56
 have HB := ak_ (Below.refl w.heap.size w)
 have H : (if a1 < 0 then (addr_Clip.j0 k a1 true a0_0 a0_1) else (addr_Clip.j0 k a1 (decide (a1 > 128)) a0_0 a0_1)) = some (r1, r2, r3, r4) := h
 clear h
 have HC3 := ak_ H
 clear H
 go_enter Try.func98, Try.ntmps98
 go_upto_region 1 with (first | ((with_reducible refine gate_dst (N := 2) rfl ?_); refine box_event ?hg (N := 2) ?hd (cs := #[.int .u64 a0_0, .int .u64 a0_1]) (t := 54) ?hr ?_; (case hd => rfl); (case hg => rfl); (case hr => go_simp; done); intro gb118 hg w4 hbox hb; have BK118 := ak_ hbox; have GW118 := gz_ HB hg; have GE118 := gz_ HB hg; replace HB := bs_ HB hb; clear hb hbox hg) | ((with_reducible refine gate_dst (N := 4) rfl ?_); refine box_event ?hg (N := 4) ?hd (cs := #[.int .u64 0, .int .u64 0, .int .i64 0]) (t := 56) ?hr ?_; (case hd => rfl); (case hg => rfl); (case hr => go_simp; done); intro gb119 hg w5 hbox hb; have BK119 := ak_ hbox; have GW119 := gz_ HB hg; have GE119 := gz_ HB hg; replace HB := bs_ HB hb; have NB118_119 := gl_ BK118 hg; have NB119_118 := gr_ BK118 hg; replace BK118 := bb_ BK118 hb; clear hb hbox hg))
 (try simp only [Act.put, List.setIfInBounds_toArray, List.set_cons_zero, List.set_cons_succ])
 go_cut [11] (fun v11 wc => ∃ (kq : Nat) (x11_2 : Bool), v11 = .bool x11_2 ∧ Aside0 (addr_Clip.j0 kq a1 x11_2 a0_0 a0_1 = some (r1, r2, r3, r4)) ∧ Aside0 (kq ≤ k) ∧ Aside0 (wc.heap[gb118]? = some (.cells #[.int .u64 a0_0, .int .u64 a0_1] 54 (0, 0))) ∧ Aside0 (wc.heap[gb119]? = some (.cells #[.int .u64 0, .int .u64 0, .int .i64 0] 56 (0, 0))) ∧ Aside0 (Below w.heap.size w wc))
 case first =>
  have H := HC3.out
  clear HC3
  by_cases c6 : a1 < 0
  ·rw [if_pos c6] at H
   have c6b0 : decide (a1 < 0) = true := decide_eq_true c6
   clear c6
   (first | skip)
   have H' := ak_ H
   clear H
   go_wp2
   go_meet
   case rel => exact ⟨_, (true), (by rfl), H', ⟨by omega⟩, ⟨by exact BK118.out⟩, ⟨by exact BK119.out⟩, ⟨by exact HB.out⟩⟩
  rw [if_neg c6] at H
  have c6b0 : decide (a1 < 0) = false := decide_eq_false c6
  clear c6
  (first | skip)
  have H' := ak_ H
  clear H
  go_wp2
  go_meet
  case rel => exact ⟨_, (decide (a1 > 128)), (by rfl), H', ⟨by omega⟩, ⟨by exact BK118.out⟩, ⟨by exact BK119.out⟩, ⟨by exact HB.out⟩⟩
 case rest =>
 clear HC3
 try clear p2
 try clear c6
 try clear c6b0
 obtain ⟨kq, x11_2, rfl, HA, HJ2, BK118, BK119, HB⟩ := hcut
 cases kq with
 | zero => exact absurd HA.out (by simp [addr_Clip.j0])
 | succ kj2 =>
 have H := HA.out
 clear HA
 simp only [addr_Clip.j0] at H
 by_cases c7 : x11_2 = true
 ·subst c7
  have H1 : (some (0, 0, 0, false)) = some (r1, r2, r3, r4) := by rw [if_pos rfl] at H; exact H
  clear H
  have H := H1
  clear H1
  simp only [Option.some.injEq, Prod.mk.injEq] at H
  obtain ⟨rfl, rfl, rfl, rfl⟩ := H
  have hnb8 := NB119_118.out
  have hnc8 := NB118_119.out
  have hz9 := bz3_ BK119
  go_wp2
  refine bodyPost_ret (results_ct rfl _ _ gb119 56 #[.int .u64 0, .int .u64 0, .int .i64 0] (0, 0) _ rfl (by refine blk_put (cs := #[.int .u64 0, .int .u64 0, .int .i64 0]) ?_ 2 _ rfl; refine blk_put (cs := #[.int .u64 0, .int .u64 0, .int .i64 0]) ?_ 1 _ rfl; refine blk_put (cs := #[.int .u64 0, .int .u64 0, .int .i64 0]) ?_ 0 _ rfl; exact BK119.out) Try.underlying56 rfl (by kernel_rfl)) rfl ?_
  exact ⟨by rfl, by repeat (first | (with_reducible first | exact HB.out | refine below_set ?_ GE119.out))⟩
 replace c7 := Bool.eq_false_iff.mpr c7
 subst c7
 have H1 : ((addr_Down.f a0_0 a0_1 (wrap64 (128 - a1))).bind fun bt120 => ((addr_Up.f bt120.1 bt120.2 (wrap64 (128 - a1))).bind fun bt122 => (some (bt122.1, bt122.2, a1, true)))) = some (r1, r2, r3, r4) := by rw [if_neg (show ¬ (false = true) by decide)] at H; exact H
 clear H
 have H := H1
 clear H1
 replace H := Option.bind_eq_some_iff.mp H
 obtain ⟨⟨t120, t121⟩, A100, H⟩ := H
 replace H : ((addr_Up.f t120 t121 (wrap64 (128 - a1))).bind fun bt122 => (some (bt122.1, bt122.2, a1, true))) = some (r1, r2, r3, r4) := H
 have A10 := ak_ A100
 clear A100
 replace H := Option.bind_eq_some_iff.mp H
 obtain ⟨⟨t122, t123⟩, A110, H⟩ := H
 replace H : (some (t122, t123, a1, true)) = some (r1, r2, r3, r4) := H
 have A11 := ak_ A110
 clear A110
 simp only [Option.some.injEq, Prod.mk.injEq] at H
 obtain ⟨rfl, rfl, rfl, rfl⟩ := H
 have hnb12 := NB118_119.out
 have hnc12 := NB119_118.out
 have hz13 := bz2_ BK118
 go_wp2_with (first | ((with_reducible refine gate_callee (f := 105) rfl ?_); refine goesL_ (some 16) rfl rfl Try.func105 (by kernel_rfl) rfl #[.agg #[.int .u64 a0_0, .int .u64 a0_1], .int .i64 (wrap64 (128 - a1))] rfl (by (try simp only [List.map_toArray, List.map_cons, List.map_nil]); first | rfl) ?_; (with_reducible refine (addr_Down.calls a0_0 a0_1 (wrap64 (128 - a1)) t120 t121 _ A10.out).mono ?_); rintro e w14 ⟨rfl, hb⟩; refine ⟨_, rfl, ?_⟩; replace BK118 := bb_ BK118 hb; replace BK119 := bb_ BK119 hb; replace HB := bs_ HB hb; (try clear hb)) | ((with_reducible refine gate_callee (f := 104) rfl ?_); refine goesL_ (some 19) rfl rfl Try.func104 (by kernel_rfl) rfl #[.agg #[.int .u64 t120, .int .u64 t121], .int .i64 (wrap64 (128 - a1))] rfl (by (try simp only [List.map_toArray, List.map_cons, List.map_nil]); first | rfl) ?_; (with_reducible refine (addr_Up.calls t120 t121 (wrap64 (128 - a1)) t122 t123 _ A11.out).mono ?_); rintro e w15 ⟨rfl, hb⟩; refine ⟨_, rfl, ?_⟩; replace BK118 := bb_ BK118 hb; replace BK119 := bb_ BK119 hb; replace HB := bs_ HB hb; (try clear hb); have hz16 := bz3_ BK119))
 refine bodyPost_ret (results_ct rfl _ _ gb119 56 #[.int .u64 t122, .int .u64 t123, .int .i64 a1] (0, 0) _ rfl (by refine blk_put (cs := #[.int .u64 t122, .int .u64 t123, .int .i64 0]) ?_ 2 _ rfl; refine blk_put (cs := #[.int .u64 t122, .int .u64 0, .int .i64 0]) ?_ 1 _ rfl; refine blk_put (cs := #[.int .u64 0, .int .u64 0, .int .i64 0]) ?_ 0 _ rfl; exact BK119.out) Try.underlying56 rfl (by kernel_rfl)) rfl ?_
 exact ⟨by rfl, by repeat (first | (with_reducible first | exact HB.out | refine below_set ?_ GE119.out))⟩

def addr_Sound.f (k : Nat) (a0_0 : Int) (a0_1 : Int) (a0_2 : Int) : Option (Bool) := (addr_Clip.f k a0_0 a0_1 a0_2).bind fun bt125 => (if bt125.2.2.2 = true then (some ((bt125.1 == a0_0 && (bt125.2.1 == a0_1)) && (bt125.2.2.1 == a0_2))) else (some false))
set_option maxHeartbeats 8000000 in
set_option maxRecDepth 100000 in
theorem addr_Sound.calls (k : Nat) (a0_0 : Int) (a0_1 : Int) (a0_2 : Int) (r : Bool) (w : World) (h : addr_Sound.f k a0_0 a0_1 a0_2 = some r) :
 Calls Try.prog 89 #[.agg #[.int .u64 a0_0, .int .u64 a0_1, .int .i64 a0_2]] w fun e w' => e = .returned (.bool r) ∧ Below w.heap.size w w' := by
 have hu56 := Try.underlying56
 have hu54 := Try.underlying54
 have HB := ak_ (Below.refl w.heap.size w)
 have H : ((addr_Clip.f k a0_0 a0_1 a0_2).bind fun bt125 => (if bt125.2.2.2 = true then (some ((bt125.1 == a0_0 && (bt125.2.1 == a0_1)) && (bt125.2.2.1 == a0_2))) else (some false))) = some r := h
 clear h
 replace H := Option.bind_eq_some_iff.mp H
 obtain ⟨⟨t125, t126, t127, t128⟩, A20, H⟩ := H
 replace H : (if t128 = true then (some ((t125 == a0_0 && (t126 == a0_1)) && (t127 == a0_2))) else (some false)) = some r := H
 have A2 := ak_ A20
 clear A20
 by_cases c3 : t128 = true
 ·subst c3
  have H1 : (some ((t125 == a0_0 && (t126 == a0_1)) && (t127 == a0_2))) = some r := by rw [if_pos rfl] at H; exact H
  clear H
  have H := H1
  clear H1
  obtain rfl := Option.some.inj H
  go_enter Try.func89, Try.ntmps89
  go_wp2_with (first | ((with_reducible refine gate_dst (N := 1) rfl ?_); refine box_event ?hg (N := 1) ?hd (cs := #[.int .u64 a0_0, .int .u64 a0_1, .int .i64 a0_2]) (t := 56) ?hr ?_; (case hd => rfl); (case hg => rfl); (case hr => go_simp; done); intro gb124 hg w4 hbox hb; have BK124 := ak_ hbox; have GW124 := gz_ HB hg; have GE124 := gz_ HB hg; replace HB := bs_ HB hb; clear hb hbox hg; have hz5 := bz3_ BK124) | ((with_reducible refine gate_callee (f := 98) rfl ?_); refine goesL_ (some 10) rfl rfl Try.func98 (by kernel_rfl) rfl #[.agg #[.int .u64 a0_0, .int .u64 a0_1], .int .i64 a0_2] rfl (by (try simp only [List.map_toArray, List.map_cons, List.map_nil]); first | rfl) ?_; (with_reducible refine (addr_Clip.calls k a0_0 a0_1 a0_2 t125 t126 t127 true _ A2.out).mono ?_); rintro e w6 ⟨rfl, hb⟩; refine ⟨_, rfl, ?_⟩; replace BK124 := bb_ BK124 hb; replace HB := bs_ HB hb; (try clear hb)) | ((with_reducible refine gate_dst (N := 3) rfl ?_); refine box_event ?hg (N := 3) ?hd (cs := #[.int .u64 0, .int .u64 0, .int .i64 0]) (t := 56) ?hr ?_; (case hd => rfl); (case hg => rfl); (case hr => go_simp; done); intro gb129 hg w7 hbox hb; have BK129 := ak_ hbox; have GW129 := gz_ HB hg; have GE129 := gz_ HB hg; replace HB := bs_ HB hb; have NB124_129 := gl_ BK124 hg; have NB129_124 := gr_ BK124 hg; replace BK124 := bb_ BK124 hb; clear hb hbox hg; have hnb8 := NB129_124.out; have hnc8 := NB124_129.out; have hz9 := bz3_ BK129; have hz10 := bz3_ BK124))
  go_ret
  exact ⟨by rfl, by repeat (first | (with_reducible first | exact HB.out | refine below_set ?_ GE129.out))⟩
 replace c3 := Bool.eq_false_iff.mpr c3
 subst c3
 have H1 : (some false) = some r := by rw [if_neg (show ¬ (false = true) by decide)] at H; exact H
 clear H
 have H := H1
 clear H1
 obtain rfl := Option.some.inj H
 go_enter Try.func89, Try.ntmps89
 go_wp2_with (first | ((with_reducible refine gate_dst (N := 1) rfl ?_); refine box_event ?hg (N := 1) ?hd (cs := #[.int .u64 a0_0, .int .u64 a0_1, .int .i64 a0_2]) (t := 56) ?hr ?_; (case hd => rfl); (case hg => rfl); (case hr => go_simp; done); intro gb124 hg w11 hbox hb; have BK124 := ak_ hbox; have GW124 := gz_ HB hg; have GE124 := gz_ HB hg; replace HB := bs_ HB hb; clear hb hbox hg; have hz12 := bz3_ BK124) | ((with_reducible refine gate_callee (f := 98) rfl ?_); refine goesL_ (some 10) rfl rfl Try.func98 (by kernel_rfl) rfl #[.agg #[.int .u64 a0_0, .int .u64 a0_1], .int .i64 a0_2] rfl (by (try simp only [List.map_toArray, List.map_cons, List.map_nil]); first | rfl) ?_; (with_reducible refine (addr_Clip.calls k a0_0 a0_1 a0_2 t125 t126 t127 false _ A2.out).mono ?_); rintro e w13 ⟨rfl, hb⟩; refine ⟨_, rfl, ?_⟩; replace BK124 := bb_ BK124 hb; replace HB := bs_ HB hb; (try clear hb)) | ((with_reducible refine gate_dst (N := 3) rfl ?_); refine box_event ?hg (N := 3) ?hd (cs := #[.int .u64 0, .int .u64 0, .int .i64 0]) (t := 56) ?hr ?_; (case hd => rfl); (case hg => rfl); (case hr => go_simp; done); intro gb129 hg w14 hbox hb; have BK129 := ak_ hbox; have GW129 := gz_ HB hg; have GE129 := gz_ HB hg; replace HB := bs_ HB hb; have NB124_129 := gl_ BK124 hg; have NB129_124 := gr_ BK124 hg; replace BK124 := bb_ BK124 hb; clear hb hbox hg; have hnb15 := NB129_124.out; have hnc15 := NB124_129.out; have hz16 := bz3_ BK129))
 go_ret
 exact ⟨by rfl, by repeat (first | (with_reducible first | exact HB.out | refine below_set ?_ GE129.out))⟩

def inn (k : Nat) (kind : Int) (x : S58) : Option Bool := (opt6_isCode.f x.f3).bind fun c => if c = true then (addr_Sound.f k x.f0.f0.f0 x.f0.f0.f1 x.f0.f1).bind fun s => some (s && (kind == 4 || x.f0.f1 == 128)) else some false
set_option maxHeartbeats 4000000 in
set_option maxRecDepth 100000 in
theorem inn_calls (k : Nat) (kind : Int) (x : S58) (gb : Nat) (r : Bool) (w : World) (hk : w.cell? ⟨gb, 0, none⟩ = some (.int .i64 kind)) (h : inn k kind x = some r) :
 Calls Try.prog 88 #[.agg #[.int .u64 x.f0.f0.f0, .int .u64 x.f0.f0.f1, .int .i64 x.f0.f1, .int .u32 x.f1, .int .u32 x.f2, .int .i64 x.f3], .pointer (some ⟨gb, 0, none⟩)] w fun e w' => e = .returned (.bool r) ∧ Below w.heap.size w w' := by
 unfold inn at h
 have hgb : gb < w.heap.size := World.block_lt_of_cell? w _ hk
 have hgb_ := ak_ hgb
 clear hgb
 obtain ⟨c, hc, h⟩ := Option.bind_eq_some_iff.1 h
 have HC := ak_ hc
 obtain ⟨⟨⟨p, q⟩, bits⟩, pref, valid, code⟩ := x
 have hu76 := Try.underlying58
 have hu74 := Try.underlying56
 have hu37 := Try.underlying51
 have hi74 : (Try.prog.info? 56).map (·.size) = some 3 := by kernel_rfl
 have hi76 : (Try.prog.info? 58).map (·.size) = some 6 := by kernel_rfl
 dsimp only at h HC ⊢
 cases c with
 | false =>
  rw [if_neg (by decide)] at h
  obtain rfl := Option.some.inj h
  clear hc h hk
  go_enter Try.func88, Try.ntmps88
  go_wp2_with (go_at_call 63; refine (opt6_isCode.calls code false _ HC.out).mono ?_; rintro e w1 ⟨rfl, hd⟩; have HB1 := ak_ (below_step (below_alloc (Below.refl _ w) _) hd.below); clear hd)
  go_ret
  exact ⟨rfl, HB1.out⟩
 | true =>
  rw [if_pos rfl] at h
  obtain ⟨s, hs, h⟩ := Option.bind_eq_some_iff.1 h
  obtain rfl := Option.some.inj h
  have HS := ak_ hs
  have HK := ak_ hk
  have BX := ak_ (blk_new w (.cells #[.int .u64 p, .int .u64 q, .int .i64 bits, .int .u32 pref, .int .u32 valid, .int .i64 code] 58))
  clear hc hs h hk
  go_enter Try.func88, Try.ntmps88
  go_wp2_with (first
   | (go_at_call 63; refine (opt6_isCode.calls code true _ HC.out).mono ?_; rintro e w1 ⟨rfl, hd⟩; have HB1 := ak_ (below_step (below_alloc (Below.refl _ w) _) hd.below); have BX1 := ak_ (blk_below BX.out hd.below); have h0_ := (blk_cell BX1.out 0).trans rfl; have h1_ := (blk_cell BX1.out 1).trans rfl; have h2_ := (blk_cell BX1.out 2).trans rfl; clear hd)
   | (go_at_call 89; refine (addr_Sound.calls k p q bits s _ HS.out).mono ?_; rintro e w2 ⟨rfl, hb⟩; have HB2 := ak_ (below_step HB1.out hb); have BX2 := ak_ (blk_below BX1.out hb); have g2_ := (blk_cell BX2.out 2).trans rfl; have hk_ : w2.cell? ⟨gb, 0, none⟩ = some (.int .i64 kind) := (HB2.out.cell hgb_.out).trans HK.out; clear hb))
  all_goals
   go_ret
   refine ⟨?_, HB2.out⟩
   first | (simp [*]; done)
def innAll (k : Nat) (kind : Int) : List S58 → Option Bool
  | [] => some true
  | x :: l => (inn k kind x).bind fun b => if b = true then innAll k kind l else some false
def tailS (kind t1 t2 : Int) (n : Nat) (code : Int) : Option Bool :=
  if kind = 3 then (if t1 = 0 ∧ t2 = 0 then (opt6_isCode.f code).bind fun c => some (decide (n ≤ 8) && c) else some false) else if kind = 2 ∨ kind = 4 then (opt6_isCode.f code).bind fun c => some (decide (n ≤ 8) && c) else some false
def soundK (k : Nat) (kind iaid t1 t2 : Int) (l : List S58) (code : Int) : Option Bool := (innAll k kind l).bind fun b => if b = true then tailS kind t1 t2 l.length code else some false
set_option maxHeartbeats 8000000 in
set_option maxRecDepth 100000 in
theorem soundK_calls (k : Nat) (kind iaid t1 t2 : Int) (A4 : Option Addr) (c4 : Nat) (l4 : List S58) (code : Int) (r : Bool) (w : World) (hr : Kd.C k58 w A4 l4.length l4) (hc : l4.length ≤ c4) (h : soundK k kind iaid t1 t2 l4 code = some r) :
 Calls Try.prog 64 #[.agg #[.int .i64 kind, .int .u32 iaid, .int .u32 t1, .int .u32 t2, .slice A4 l4.length c4, .int .i64 code]] w fun e w' => e = .returned (.bool r) ∧ Below w.heap.size w w' := by
 unfold soundK at h
 have hmax : l4.length ≤ 9223372036854775807 := Kd.C_max hr
 have HR := ak_ hr
 have HC := ak_ hc
 have H := ak_ h
 have HM := ak_ hmax
 have hu37 := Try.underlying51
 have hu76 := Try.underlying58
 have hi76 : (Try.prog.info? 58).map (·.size) = some 6 := by kernel_rfl
 have hmf : ∀ (fn : Fn) (first cap : Array Value) (w : World), (Instr.makeFunc fn first cap).run Try.prog w = .ok (.func fn first cap) w := fun _ _ _ _ => rfl
 have BX0 := ak_ (blk_new w (.cells #[.int .i64 kind, .int .u32 iaid, .int .u32 t1, .int .u32 t2, .slice A4 l4.length c4, .int .i64 code] 51))
 have HB0 := ak_ (below_alloc (Below.refl _ w) (.cells #[.int .i64 kind, .int .u32 iaid, .int .u32 t1, .int .u32 t2, .slice A4 l4.length c4, .int .i64 code] 51))
 clear hr hc h hmax
 obtain ⟨n, hn⟩ : ∃ n, n = l4.length := ⟨_, rfl⟩
 have HN := ak_ hn
 rw [← hn] at BX0 HB0 ⊢
 clear hn
 go_enter Try.func64, Try.ntmps64
 go_upto_region 3 with fail
 have hgw := ak_ (Nat.le_refl w.heap.size)
 have HBW := ak_ (show Below w.heap.size w (w.alloc (.cells #[.int .i64 kind, .int .u32 iaid, .int .u32 t1, .int .u32 t2, .slice A4 n c4, .int .i64 code] 51)) from HB0.out)
 generalize w.alloc (.cells #[.int .i64 kind, .int .u32 iaid, .int .u32 t1, .int .u32 t2, .slice A4 n c4, .int .i64 code] 51) = w0 at BX0 HBW HB0 ⊢
 have GB := ak_ (rfl : w.heap.size = w.heap.size)
 clear HB0 hgw GB
 go_loopg [5, 10] n (fun gg _ s10 wr => ∃ kk : Nat, Aside0 (kk ≤ n ∧ n - kk ≤ gg) ∧ s10 = .int .i64 kk ∧ Aside0 (Below w.heap.size w wr) ∧ Aside0 (wr.heap[w.heap.size]? = some (.cells #[.int .i64 kind, .int .u32 iaid, .int .u32 t1, .int .u32 t2, .slice A4 n c4, .int .i64 code] 51 (0, 0))) ∧ Aside0 (((innAll k kind (l4.drop kk)).bind fun b => if b = true then tailS kind t1 t2 l4.length code else some false) = some r))
 case atStart => exact ⟨0, ⟨Nat.zero_le _, Nat.le_refl _⟩, rfl, HBW, BX0, by rw [List.drop_zero]; exact H⟩
 case round =>
 clear H HBW BX0
 obtain ⟨kk, HK, rfl, HB, BX, H⟩ := hrel
 by_cases hlt : kk < n
 ·obtain ⟨ad, hA, hx0, hx1, hx2, hx3, hx4, hx5⟩ := at_T58 (Kd.C_below HR.out HB.out) (kk : Int) (by omega) (by have := HN.out; omega)
  subst hA
  simp only [Int.toNat_natCast] at hx0 hx1 hx2 hx3 hx4 hx5
  have h := H.out
  have hd : l4.drop kk = (rd_T58 l4 (kk : Int)) :: l4.drop (kk + 1) := by
   have hlt' : kk < l4.length := by have := HN.out; omega
   rw [List.drop_eq_getElem_cons hlt']
   simp [rd_T58, List.getD_eq_getElem?_getD, List.getElem?_eq_getElem hlt']
  rw [hd, innAll] at h
  obtain ⟨x, hx⟩ : ∃ x, x = rd_T58 l4 (kk : Int) := ⟨_, rfl⟩
  rw [← hx] at h hx0 hx1 hx2 hx3 hx4 hx5
  clear hd hx H
  have HLT := ak_ hlt
  obtain ⟨ba, hba, h⟩ := Option.bind_eq_some_iff.1 h
  obtain ⟨bi, hbi, hbb⟩ := Option.bind_eq_some_iff.1 hba
  have HI := ak_ hbi
  clear hbi hba
  have hltz : (kk : Int) < (n : Int) := by omega
  cases bi with
  | false =>
   rw [if_neg (by decide)] at hbb
   obtain rfl := Option.some.inj hbb
   rw [if_neg (by decide)] at h
   obtain rfl := Option.some.inj h
   clear h hbb
   go_wp2_with (go_at_call 88; refine (inn_calls k kind x w.heap.size false _ ((blk_cell (blk_alloc BX.out _) 0).trans rfl) HI.out).mono ?_; rintro e w9 ⟨rfl, hb⟩; have HB9 := ak_ (below_step (below_alloc HB.out _) hb); have BX9 := ak_ (blk_below (blk_alloc BX.out _) hb); clear hb)
   go_ret
   exact ⟨rfl, HB9.out⟩
  | true =>
  rw [if_pos rfl] at hbb
  have H' : Aside0 (((innAll k kind (l4.drop (kk + 1))).bind fun b => if b = true then tailS kind t1 t2 l4.length code else some false) = some r) := ⟨by rw [hbb, Option.bind_some]; exact h⟩
  clear h hbb
  go_wp2_with (go_at_call 88; refine (inn_calls k kind x w.heap.size true _ ((blk_cell (blk_alloc BX.out _) 0).trans rfl) HI.out).mono ?_; rintro e w9 ⟨rfl, hb⟩; have HB9 := ak_ (below_step (below_alloc HB.out _) hb); have BX9 := ak_ (blk_below (blk_alloc BX.out _) hb); clear hb)
  go_roundg (n - (kk + 1))
  case measure => have := HK.out; have := HLT.out; omega
  case rel => exact ⟨kk + 1, ⟨by have := HLT.out; omega, Nat.le_refl _⟩, by rw [Go.IntWalk.wrap64_in _ (by have := HLT.out; have := HM.out; have := HN.out; omega)]; rfl, HB9, BX9, H'⟩
 obtain rfl : kk = n := by have := HK.out; omega
 have h := H.out
 rw [HN.out, List.drop_length, innAll, Option.bind_some, if_pos rfl] at h
 have HT := ak_ h
 have d0 := (blk_cell BX.out 0).trans rfl
 have d2 := (blk_cell BX.out 2).trans rfl
 have d3 := (blk_cell BX.out 3).trans rfl
 have d4 := (blk_cell BX.out 4).trans rfl
 have d5 := (blk_cell BX.out 5).trans rfl
 clear h H
 have HT2 := HT.out
 unfold tailS at HT2
 clear HT
 by_cases h3 : kind = 3
 ·subst h3
  rw [if_pos rfl] at HT2
  by_cases ht : t1 = 0 ∧ t2 = 0
  ·rw [if_pos ht] at HT2
   obtain ⟨rfl, rfl⟩ := ht
   have HT := ak_ HT2
   clear HT2
   obtain ⟨c, hcd, hrr⟩ := Option.bind_eq_some_iff.1 HT.out
   obtain rfl := Option.some.inj hrr
   have HCD := ak_ hcd
   clear HT hcd hrr
   by_cases h8 : kk ≤ 8
   ·have g1 : decide (kk ≤ 8) = true := decide_eq_true h8
    have g2 : decide ((kk : Int) ≤ 8) = true := decide_eq_true (by omega)
    go_wp2_with (go_at_call 63; refine (opt6_isCode.calls code c _ HCD.out).mono ?_; rintro e w9 ⟨rfl, hd⟩; have HB9 := ak_ (below_step HB.out hd.below); clear hd)
    go_ret
    refine ⟨?_, HB9.out⟩
    rw [← HN.out, g1, Bool.true_and]
    rfl
   have g1 : decide (kk ≤ 8) = false := decide_eq_false h8
   have g2 : decide ((kk : Int) ≤ 8) = false := decide_eq_false (by omega)
   go_wp2
   go_ret
   refine ⟨?_, HB.out⟩
   rw [← HN.out, g1, Bool.false_and]
   rfl
  rw [if_neg ht] at HT2
  obtain rfl := Option.some.inj HT2
  clear HT2
  have hcase : (t1 != 0) = true ∨ (t1 = 0 ∧ (t2 != 0) = true) := by
   by_cases h1 : t1 = 0
   ·exact .inr ⟨h1, by simpa using fun h2 => ht ⟨h1, h2⟩⟩
   exact .inl (by simpa using h1)
  clear ht
  rcases hcase with h1 | ⟨rfl, h1⟩
  all_goals
   go_wp2
   go_ret
   exact ⟨rfl, HB.out⟩
 rw [if_neg h3] at HT2
 have k3 : (kind == 3) = false := by simpa using h3
 by_cases h24 : kind = 2 ∨ kind = 4
 ·rw [if_pos h24] at HT2
  have HT := ak_ HT2
  clear HT2
  rcases h24 with rfl | rfl
  ·clear h3 k3
   obtain ⟨c, hcd, hrr⟩ := Option.bind_eq_some_iff.1 HT.out
   obtain rfl := Option.some.inj hrr
   have HCD := ak_ hcd
   clear HT hcd hrr
   by_cases h8 : kk ≤ 8
   ·have g1 : decide (kk ≤ 8) = true := decide_eq_true h8
    have g2 : decide ((kk : Int) ≤ 8) = true := decide_eq_true (by omega)
    go_wp2_with (go_at_call 63; refine (opt6_isCode.calls code c _ HCD.out).mono ?_; rintro e w9 ⟨rfl, hd⟩; have HB9 := ak_ (below_step HB.out hd.below); clear hd)
    go_ret
    refine ⟨?_, HB9.out⟩
    rw [← HN.out, g1, Bool.true_and]
    rfl
   have g1 : decide (kk ≤ 8) = false := decide_eq_false h8
   have g2 : decide ((kk : Int) ≤ 8) = false := decide_eq_false (by omega)
   go_wp2
   go_ret
   refine ⟨?_, HB.out⟩
   rw [← HN.out, g1, Bool.false_and]
   rfl
  clear h3 k3
  obtain ⟨c, hcd, hrr⟩ := Option.bind_eq_some_iff.1 HT.out
  obtain rfl := Option.some.inj hrr
  have HCD := ak_ hcd
  clear HT hcd hrr
  by_cases h8 : kk ≤ 8
  ·have g1 : decide (kk ≤ 8) = true := decide_eq_true h8
   have g2 : decide ((kk : Int) ≤ 8) = true := decide_eq_true (by omega)
   go_wp2_with (go_at_call 63; refine (opt6_isCode.calls code c _ HCD.out).mono ?_; rintro e w9 ⟨rfl, hd⟩; have HB9 := ak_ (below_step HB.out hd.below); clear hd)
   go_ret
   refine ⟨?_, HB9.out⟩
   rw [← HN.out, g1, Bool.true_and]
   rfl
  have g1 : decide (kk ≤ 8) = false := decide_eq_false h8
  have g2 : decide ((kk : Int) ≤ 8) = false := decide_eq_false (by omega)
  go_wp2
  go_ret
  refine ⟨?_, HB.out⟩
  rw [← HN.out, g1, Bool.false_and]
  rfl
 rw [if_neg h24] at HT2
 obtain rfl := Option.some.inj HT2
 clear HT2
 have k2 : (kind == 2) = false := by simpa using fun h => h24 (.inl h)
 have k4 : (kind == 4) = false := by simpa using fun h => h24 (.inr h)
 clear h3 h24
 go_wp2
 go_ret
 exact ⟨rfl, HB.out⟩
def octet_put_uint64.l0 : Nat → Int → Int → List Int → Int → Int → Option (ByteArray)
  | 0, _, _, _, _, _ => none
  | k + 1, x0, x1, x5, x10, x11 => if x11 < x10 then (if 0 ≤ (wrap64 (8 * (wrap64 ((wrap64 (x1 - 1)) - x11)))) then (if 0 ≤ x11 then (if x11 < (x5.length : Int) then (octet_put_uint64.l0 k x0 x1 (x5.set (x11 : Int).toNat ((shr .u64 x0 (wrap64 (8 * (wrap64 ((wrap64 (x1 - 1)) - x11))))) % 256)) x10 (wrap64 (x11 + 1))) else (none)) else (none)) else (none)) else (some (strOfNums x5))
def octet_put_uint64.f (k : Nat) (a0 : Int) (a1 : Int) : Option (ByteArray) := if 0 ≤ a1 then (if (a1 : Int).toNat ≤ 281474976710656 then ((some (List.replicate (a1 : Int).toNat 0 : List Int)).bind fun y130 => (octet_put_uint64.l0 k a0 a1 y130 (y130.length : Int) 0)) else (none)) else (none)
set_option maxHeartbeats 8000000 in
set_option maxRecDepth 100000 in
theorem octet_put_uint64.calls (k : Nat) (a0 : Int) (a1 : Int) (r : ByteArray) (w : World) (h : octet_put_uint64.f k a0 a1 = some r) :
 Calls Try.prog 99 #[.int .u64 a0, .int .i64 a1] w fun e w' => e = .returned (.string r) ∧ Below w.heap.size w w' := by
 have HB := ak_ (Below.refl w.heap.size w)
 have H : (if 0 ≤ a1 then (if (a1 : Int).toNat ≤ 281474976710656 then ((some (List.replicate (a1 : Int).toNat 0 : List Int)).bind fun y130 => (octet_put_uint64.l0 k a0 a1 y130 (y130.length : Int) 0)) else (none)) else (none)) = some r := h
 clear h
 by_cases c3 : 0 ≤ a1
 ·rw [if_pos c3] at H
  have c3b0 := eq_true c3
  have c3b1 : decide (0 ≤ a1) = true := decide_eq_true c3
  clear c3
  by_cases c4 : (a1 : Int).toNat ≤ 281474976710656
  ·rw [if_pos c4] at H
   have c4b0 := eq_true c4
   have c4b1 : decide ((a1 : Int).toNat ≤ 281474976710656) = true := decide_eq_true c4
   clear c4
   obtain ⟨y130, hy130⟩ : ∃ y_ : List Int, y_ = (List.replicate (a1 : Int).toNat 0) := ⟨_, rfl⟩
   replace H : (octet_put_uint64.l0 k a0 a1 y130 (y130.length : Int) 0) = some r := by first | (have H2_ := (Option.bind_some _ _).symm.trans H; rw [hy130]; with_reducible exact H2_)
   have Ny130 := ak_ hy130
   clear hy130
   have H' := ak_ H
   clear H
   go_enter Try.func99, Try.ntmps99
   go_wp2_with (first | ((with_reducible refine gate_dst (N := 8) rfl ?_); refine Kd.R_make (Kd.int .u8) _ 5 rfl (N := 8) rfl 47 _ _ rfl a1 rfl rfl Try.underlying47 (.int .u8 0) 1 info5 rfl (by decide) (by omega) 0 (ok := fun _ => True) (okp := fun _ => True) rfl (fun _ hk => hk) trivial (of_decide_eq_true (by first | (with_reducible assumption))) (Nat.le_trans (Nat.mul_le_mul_right _ (of_decide_eq_true (by first | (with_reducible assumption)) : a1.toNat ≤ 281474976710656)) (by omega)) (Below.refl _ _) (Nat.le_refl _) ?_; intro v131 w5 ho6 hb hg_ hnew_; clear hg_ hnew_; (first | rw [← Ny130.out] at ho6); have HO132 := ak_ (Kd.R_lower ho6 (below_size HB.out)); replace HB := bs_ HB hb; clear hb ho6; obtain ⟨Ao7, co7, eo7⟩ := Kd.R_slice HO132.out; subst eo7))
   go_loopg [11] k (fun kq v11 w' => ∃ (x5_1 : List Int) (x11_1 : Int), v11 = .int .i64 x11_1 ∧ Aside0 (octet_put_uint64.l0 kq a0 a1 x5_1 (y130.length : Int) x11_1 = some r) ∧ Aside0 (kq ≤ k) ∧ Aside0 (Kd.R (Kd.int .u8) 5 w' w.heap.size (fun _ => True) (.slice Ao7 y130.length co7) x5_1) ∧ Aside0 (Below w.heap.size w w'))
   case atStart => exact ⟨(y130), (0), (by rfl), H', ⟨Nat.le_refl _⟩, ⟨by exact HO132.out⟩, ⟨by exact HB.out⟩⟩
   case round =>
   clear H'
   try clear p2
   try clear c3
   try clear c3b0
   try clear c3b1
   try clear c4
   try clear c4b0
   try clear c4b1
   obtain ⟨x5_1, x11_1, rfl, HA, HK1, HO_5, HB⟩ := hrel
   have hl5_1 := (Kd.R_reads' HO_5.out).1
   rw [hl5_1] at HO_5
   (try simp only [hl5_1])
   cases gk with
   | zero => exact absurd HA.out (by simp [octet_put_uint64.l0])
   | succ k1 =>
   have H := HA.out
   clear HA
   simp only [octet_put_uint64.l0] at H
   by_cases c8 : x11_1 < (y130.length : Int)
   ·rw [if_pos c8] at H
    have c8b0 : decide (x11_1 < (y130.length : Int)) = true := decide_eq_true c8
    (try (have c8b0h := c8b0; simp only [hl5_1] at c8b0h))
    clear c8
    obtain ⟨ji9, hji9⟩ : ∃ j_ : Int, (wrap64 (8 * (wrap64 ((wrap64 (a1 - 1)) - x11_1)))) = j_ := ⟨_, rfl⟩
    replace H : (if 0 ≤ (ji9) then (if 0 ≤ x11_1 then (if x11_1 < (x5_1.length : Int) then (octet_put_uint64.l0 k1 a0 a1 (x5_1.set (x11_1 : Int).toNat ((shr .u64 a0 (ji9)) % 256)) (y130.length : Int) (wrap64 (x11_1 + 1))) else (none)) else (none)) else (none)) = some r := by first | (rw [hji9] at H; exact H)
    have hji9w : (IntKind.i64.wrap (8 * (wrap64 ((wrap64 (a1 - 1)) - x11_1)))) = ji9 := (i64_w _).trans hji9
    by_cases c10 : 0 ≤ (ji9)
    ·rw [if_pos c10] at H
     have c10b0 := eq_true c10
     have c10b1 : decide (0 ≤ (ji9)) = true := decide_eq_true c10
     (try (have c10bh := c10b0; simp only [hl5_1] at c10bh))
     (try (have c10bg := c10b1; simp only [hl5_1] at c10bg))
     clear c10
     obtain ⟨ji11, hji11⟩ : ∃ j_ : Int, (shr .u64 a0 (ji9)) = j_ := ⟨_, rfl⟩
     replace H : (if 0 ≤ x11_1 then (if x11_1 < (x5_1.length : Int) then (octet_put_uint64.l0 k1 a0 a1 (x5_1.set (x11_1 : Int).toNat ((ji11) % 256)) (y130.length : Int) (wrap64 (x11_1 + 1))) else (none)) else (none)) = some r := by first | (rw [hji11] at H; exact H)
     have hji11_ : (a0 / 2 ^ min (ji9).toNat 64) = ji11 := hji11
     have hji11z : (ji9) ≤ 64 → (a0 / 2 ^ (ji9).toNat) = ji11 := shr_small hji11
     by_cases c12 : 0 ≤ x11_1
     ·rw [if_pos c12] at H
      have c12b0 : decide (0 ≤ x11_1) = true := decide_eq_true c12
      (try (have c12b0h := c12b0; simp only [hl5_1] at c12b0h))
      clear c12
      by_cases c13 : x11_1 < (x5_1.length : Int)
      ·rw [if_pos c13] at H
       have c13b0 : decide (x11_1 < (x5_1.length : Int)) = true := decide_eq_true c13
       (try (have c13b0h := c13b0; simp only [hl5_1] at c13b0h))
       clear c13
       obtain ⟨y133, hy133⟩ : ∃ y_ : List Int, y_ = (x5_1.set (x11_1 : Int).toNat ((ji11) % 256)) := ⟨_, rfl⟩
       replace H : (octet_put_uint64.l0 k1 a0 a1 y133 (y130.length : Int) (wrap64 (x11_1 + 1))) = some r := by first | (rw [hy133]; with_reducible exact H)
       have Ny133 := ak_ hy133
       clear hy133
       have H' := ak_ H
       clear H
       have p14 : 0 ≤ (x11_1 : Int) := of_decide_eq_true (by first | (with_reducible assumption))
       have q14 : (x11_1 : Int) < ((x5_1.length : Int) : Int) := of_decide_eq_true (by first | (with_reducible assumption))
       obtain ⟨go14, co14, eo14, gb14, gl14, cl14, HG14⟩ := Kd.R_form HO_5.out (by omega)
       (first | cases eo14)
       have GB14 := ak_ gb14
       have GG14 := ak_ HG14
       clear gb14 gl14 HG14
       obtain ⟨hx14_0, hf14_0⟩ := Kd.R_celln 0 HO_5.out (x11_1 : Int) p14 q14
       replace p14 := eq_true p14
       replace q14 := eq_true q14
       have HP15 := Kd.R_putg HO_5.out (x11_1 : Int) ((ji11) % 256)
       go_wp2_with (first | ((with_reducible refine gate_store (t := 5) (p := 24) rfl ?_); refine store_event (t := 5) (p := 24) (v := ?vo_w16) (w1 := (wr.setCell ⟨go14, (x11_1 : Int).toNat, none⟩ (.int .u8 ((ji11) % 256)))) ?hg ?ho ?hn ?hr ?_; (case ho => rfl); (case hg => rfl); (case hn => rfl); (case hr => go_simp; done); intro w16 hw; have hg : wr.grownBy w16 (some go14) := (by rw [hw]; exact HP15.2); have hp_ : Kd.R (Kd.int .u8) 5 w16 w.heap.size (fun _ => True) (.slice (some ⟨go14, 0, none⟩) x5_1.length co7) y133 := (by rw [hw, Ny133.out]; exact HP15.1); clear HP15; replace HO_5 := ak_ hp_; replace HB := ak_ (by rw [hw]; exact below_set (HB.out) GB14.out : Below w.heap.size w w16); clear hg hw hp_))
       (try simp only [← hl5_1])
       go_roundg k1
       case measure => have := HK1.out; omega
       case rel => exact ⟨(y133), (wrap64 (x11_1 + 1)), (by rfl), H', ⟨by have := HK1.out; omega⟩, ⟨by (try simp only [hl5_1]); exact HO_5.out⟩, ⟨by exact HB.out⟩⟩
      rw [if_neg c13] at H
      exact absurd H (by simp)
     rw [if_neg c12] at H
     exact absurd H (by simp)
    rw [if_neg c10] at H
    exact absurd H (by simp)
   rw [if_neg c8] at H
   have c8b0 : decide (x11_1 < (y130.length : Int)) = false := decide_eq_false c8
   (try (have c8b0h := c8b0; simp only [hl5_1] at c8b0h))
   clear c8
   obtain rfl := Option.some.inj H
   have hcv17 := own_string (P := Try.prog) Try.underlying47 Try.underlying5 Try.underlying9 (Kd.own_of_R HO_5.out)
   go_wp2
   go_ret
   exact ⟨by rfl, by exact HB.out⟩
  rw [if_neg c4] at H
  exact absurd H (by simp)
 rw [if_neg c3] at H
 exact absurd H (by simp)

def octet_Put64.f (k : Nat) (a0 : Int) : Option (ByteArray) := (octet_put_uint64.f k a0 8).bind fun t134 => (some t134)
set_option maxHeartbeats 8000000 in
set_option maxRecDepth 100000 in
theorem octet_Put64.calls (k : Nat) (a0 : Int) (r : ByteArray) (w : World) (h : octet_Put64.f k a0 = some r) :
 Calls Try.prog 90 #[.int .u64 a0] w fun e w' => e = .returned (.string r) ∧ Below w.heap.size w w' := by
 have HB := ak_ (Below.refl w.heap.size w)
 have H : ((octet_put_uint64.f k a0 8).bind fun t134 => (some t134)) = some r := h
 clear h
 replace H := Option.bind_eq_some_iff.mp H
 obtain ⟨t134, A20, H⟩ := H
 replace H : (some t134) = some r := H
 have A2 := ak_ A20
 clear A20
 obtain rfl := Option.some.inj H
 go_enter Try.func90, Try.ntmps90
 go_wp2_with (first | ((with_reducible refine gate_callee (f := 99) rfl ?_); refine goesL_ (some 4) rfl rfl Try.func99 (by kernel_rfl) rfl #[.int .u64 a0, .int .i64 8] rfl (by (try simp only [List.map_toArray, List.map_cons, List.map_nil]); first | rfl) ?_; (with_reducible refine (octet_put_uint64.calls k a0 8 t134 _ A2.out).mono ?_); rintro e w3 ⟨rfl, hb⟩; refine ⟨_, rfl, ?_⟩; replace HB := bs_ HB hb; (try clear hb)))
 go_ret
 exact ⟨by rfl, by exact HB.out⟩

def octet_PutAddr.f (k : Nat) (a0_0 : Int) (a0_1 : Int) : Option (ByteArray) := (octet_Put64.f k a0_0).bind fun t136 => ((octet_Put64.f k a0_1).bind fun t137 => (if t136.size + t137.size ≤ 9223372036854775807 then (some (t136 ++ t137)) else (none)))
def octet_PutAddr.T1 : Bool × List (List Nat × List Nat) := (true, [([], []), ([0], [0]), ([1], [1]), ([], []), ([3], [3]), ([4, 2], [4]), ([2, 5], [2, 5]), ([6, 5, 0, 1, 2, 3, 4, 5, 6], [6])])
def octet_PutAddr.B1 : List Nat := [0, 1, 3, 0, 8, 31, 63, 127]
theorem octet_PutAddr.tab1 : rtab .any (opsOf Try.f65 1) = octet_PutAddr.T1 := by kernel_rfl
theorem octet_PutAddr.bits1 : waitsOk octet_PutAddr.T1.2 octet_PutAddr.B1 = true := by kernel_rfl
set_option maxHeartbeats 8000000 in
set_option maxRecDepth 100000 in
theorem octet_PutAddr.calls (k : Nat) (a0_0 : Int) (a0_1 : Int) (r : ByteArray) (w : World) (h : octet_PutAddr.f k a0_0 a0_1 = some r) :
 Calls Try.prog 65 #[.agg #[.int .u64 a0_0, .int .u64 a0_1]] w fun e w' => e = .returned (.string r) ∧ Below w.heap.size w w' := by
 have hu54 := Try.underlying54
 have HB := ak_ (Below.refl w.heap.size w)
 have H : ((octet_Put64.f k a0_0).bind fun t136 => ((octet_Put64.f k a0_1).bind fun t137 => (if t136.size + t137.size ≤ 9223372036854775807 then (some (t136 ++ t137)) else (none)))) = some r := h
 clear h
 replace H := Option.bind_eq_some_iff.mp H
 obtain ⟨t136, A20, H⟩ := H
 replace H : ((octet_Put64.f k a0_1).bind fun t137 => (if t136.size + t137.size ≤ 9223372036854775807 then (some (t136 ++ t137)) else (none))) = some r := H
 have A2 := ak_ A20
 clear A20
 replace H := Option.bind_eq_some_iff.mp H
 obtain ⟨t137, A30, H⟩ := H
 replace H : (if t136.size + t137.size ≤ 9223372036854775807 then (some (t136 ++ t137)) else (none)) = some r := H
 have A3 := ak_ A30
 clear A30
 by_cases c4 : t136.size + t137.size ≤ 9223372036854775807
 ·rw [if_pos c4] at H
  have c4b0 := eq_true c4
  have c4b1 : decide (t136.size + t137.size ≤ 9223372036854775807) = true := decide_eq_true c4
  try have c4b2 : (9223372036854775807 < t136.size + t137.size) = False := eq_false (Nat.not_lt.2 c4)
  obtain rfl := Option.some.inj H
  go_enter Try.func65, Try.ntmps65
  try go_wp2_with (first | ((with_reducible refine gate_dst (N := 1) rfl ?_); refine box_event ?hg (N := 1) ?hd (cs := #[.int .u64 a0_0, .int .u64 a0_1]) (t := 54) ?hr ?_; (case hd => rfl); (case hg => rfl); (case hr => go_simp; done); intro gb135 hg w5 hbox hb; have BK135 := ak_ hbox; have GW135 := gz_ HB hg; have GE135 := gz_ HB hg; replace HB := bs_ HB hb; clear hb hbox hg))
  replace BK135 := ak_ (blk_drew BK135.out)
  replace HB := ak_ (below_drew1 HB.out)
  refine start_ (n := 8) (S := fun w' => w'.cell? ⟨gb135, 0, none⟩ = some (.int .u64 a0_0) ∧ w'.cell? ⟨gb135, 1, none⟩ = some (.int .u64 a0_1)) (ds := []) #[false, false, false, false, false, false, false, false] (by kernel_rfl) rfl rfl ⟨(blk_cell BK135.out 0).trans rfl, (blk_cell BK135.out 1).trans rfl⟩ (fun hHeld => ?_); refine with_tabW octet_PutAddr.tab1 octet_PutAddr.bits1 (fun HT_ HW_ => ?_)
  generalize w5.drew = w6 at BK135 HB hHeld ⊢
  refine pure_ (i := 0) (N := some 3) (v := ?_) (a' := ?_) #[true, false, false, false, false, false, false, false] rfl rfl (any_of HT_.out (by kernel_rfl)) (fun _ _ _ h => h) (Or.inl ⟨by rfl, ?_⟩) ?_ ?_
  rotate_left
  ·intro w'
   go_simp
   with_reducible rfl
  rotate_left
  ·simp only [Act.put, List.setIfInBounds_toArray, List.set_cons_zero, List.set_cons_succ, i64_w, i32_w]
   rfl
  refine pure_ (i := 3) (N := some 6) (v := ?_) (a' := ?_) #[true, false, false, true, false, false, false, false] rfl rfl (any_of HT_.out (by kernel_rfl)) (fun _ _ _ h => h) (Or.inl ⟨by rfl, ?_⟩) ?_ ?_
  rotate_left
  ·intro w'
   go_simp
   with_reducible rfl
  rotate_left
  ·simp only [Act.put, List.setIfInBounds_toArray, List.set_cons_zero, List.set_cons_succ, i64_w, i32_w]
   rfl
  refine take_ (i := 1) (N := some 4) (v := ?_) (a' := ?_) #[true, true, false, true, false, false, false, false] rfl rfl (take_ofW HT_.out HW_.out (by kernel_rfl)) (fun _ _ _ h => h) (Or.inl ⟨by rfl, ?_⟩) hHeld ?_ ?_
  rotate_left
  ·rintro w' ⟨s0, s1⟩
   go_simp
   with_reducible rfl
  rotate_left
  ·simp only [Act.put, List.setIfInBounds_toArray, List.set_cons_zero, List.set_cons_succ, i64_w, i32_w]
   rfl
  refine take_ (i := 4) (N := some 7) (v := ?_) (a' := ?_) #[true, true, false, true, true, false, false, false] rfl rfl (take_ofW HT_.out HW_.out (by kernel_rfl)) (fun _ _ _ h => h) (Or.inl ⟨by rfl, ?_⟩) hHeld ?_ ?_
  rotate_left
  ·rintro w' ⟨s0, s1⟩
   go_simp
   with_reducible rfl
  rotate_left
  ·simp only [Act.put, List.setIfInBounds_toArray, List.set_cons_zero, List.set_cons_succ, i64_w, i32_w]
   rfl
  refine one_ (i := 2) (N := some 5) #[true, true, true, true, true, false, false, false] rfl rfl (one_of HT_.out (by kernel_rfl)) (by decide) (fun K hK => ?_)
  refine goes_ Try.func90 (by kernel_rfl) rfl #[.int .u64 a0_0] (by rfl) rfl rfl (by (try simp only [List.map_toArray, List.map_cons, List.map_nil]); first | rfl) ?_
  with_reducible refine (octet_Put64.calls k a0_0 t136 _ A2.out).mono ?_
  rintro e w7 ⟨rfl, hb⟩
  refine ⟨_, rfl, ?_⟩
  replace BK135 := bb_ BK135 hb
  replace HB := bs_ HB hb
  (try clear hb)
  (try clear hb2)
  (try clear hk)
  (try clear hi)
  refine hK.out _ _ ⟨(blk_cell BK135.out 0).trans rfl, (blk_cell BK135.out 1).trans rfl⟩ (fun hHeld => ?_)
  clear hK K
  refine norm_ (a' := ?_) ?_ ?_
  rotate_left
  ·show Act.put _ (some 5) _ = _
   simp only [Act.put, List.setIfInBounds_toArray, List.set_cons_zero, List.set_cons_succ, i64_w, i32_w]
   rfl
  refine one_ (i := 5) (N := some 8) #[true, true, true, true, true, true, false, false] rfl rfl (one_of HT_.out (by kernel_rfl)) (by decide) (fun K hK => ?_)
  refine goes_ Try.func90 (by kernel_rfl) rfl #[.int .u64 a0_1] (by rfl) rfl rfl (by (try simp only [List.map_toArray, List.map_cons, List.map_nil]); first | rfl) ?_
  with_reducible refine (octet_Put64.calls k a0_1 t137 _ A3.out).mono ?_
  rintro e w8 ⟨rfl, hb⟩
  refine ⟨_, rfl, ?_⟩
  replace BK135 := bb_ BK135 hb
  replace HB := bs_ HB hb
  (try clear hb)
  (try clear hb2)
  (try clear hk)
  (try clear hi)
  refine hK.out _ _ ⟨(blk_cell BK135.out 0).trans rfl, (blk_cell BK135.out 1).trans rfl⟩ (fun hHeld => ?_)
  clear hK K
  refine norm_ (a' := ?_) ?_ ?_
  rotate_left
  ·show Act.put _ (some 8) _ = _
   simp only [Act.put, List.setIfInBounds_toArray, List.set_cons_zero, List.set_cons_succ, i64_w, i32_w]
   rfl
  refine pure_ (i := 6) (N := some 9) (v := ?_) (a' := ?_) #[true, true, true, true, true, true, true, false] rfl rfl (any_of HT_.out (by kernel_rfl)) (fun _ _ _ h => h) (Or.inl ⟨by rfl, ?_⟩) ?_ ?_
  rotate_left
  ·intro w'
   go_simp
   with_reducible rfl
  rotate_left
  ·simp only [Act.put, List.setIfInBounds_toArray, List.set_cons_zero, List.set_cons_succ, i64_w, i32_w]
   rfl
  refine pure_ (i := 7) (N := some 2) (v := ?_) (a' := ?_) #[true, true, true, true, true, true, true, true] rfl rfl (any_of HT_.out (by kernel_rfl)) (fun _ _ _ h => h) (Or.inl ⟨by rfl, ?_⟩) ?_ ?_
  rotate_left
  ·intro w'
   go_simp
   with_reducible rfl
  rotate_left
  ·simp only [Act.put, List.setIfInBounds_toArray, List.set_cons_zero, List.set_cons_succ, i64_w, i32_w]
   rfl
  refine done_ (done_of HT_.out (by kernel_rfl)) ?_
  try go_wp2
  go_ret
  exact ⟨by rfl, by exact HB.out⟩
 rw [if_neg c4] at H
 exact absurd H (by simp)

def octet_Run.f (k : Nat) (a0 : ByteArray) : Option (ByteArray × Bool) := if (a0.size : Int) > 65535 then (some ((⟨#[]⟩ : ByteArray), false)) else ((octet_Put16.f k (IntKind.u16.wrap ((a0.size : Int)))).bind fun t138 => (if t138.size + a0.size ≤ 9223372036854775807 then (some (t138 ++ a0, true)) else (none)))
set_option maxHeartbeats 8000000 in
set_option maxRecDepth 100000 in
theorem octet_Run.calls (k : Nat) (a0 : ByteArray) (r1 : ByteArray) (r2 : Bool) (w : World) (h : octet_Run.f k a0 = some (r1, r2)) :
 Calls Try.prog 37 #[.string a0] w fun e w' => e = .returned (.tuple #[.string r1, .bool r2]) ∧ Below w.heap.size w w' := by
 have HB := ak_ (Below.refl w.heap.size w)
 have H : (if (a0.size : Int) > 65535 then (some ((⟨#[]⟩ : ByteArray), false)) else ((octet_Put16.f k (IntKind.u16.wrap ((a0.size : Int)))).bind fun t138 => (if t138.size + a0.size ≤ 9223372036854775807 then (some (t138 ++ a0, true)) else (none)))) = some (r1, r2) := h
 clear h
 by_cases c2 : (a0.size : Int) > 65535
 ·rw [if_pos c2] at H
  have c2b0 : decide (65535 < (a0.size : Int)) = true := decide_eq_true c2
  have c2b1 : decide (65535 < a0.size) = true := decide_eq_true (by omega)
  clear c2
  simp only [Option.some.injEq, Prod.mk.injEq] at H
  obtain ⟨rfl, rfl⟩ := H
  go_enter Try.func37, Try.ntmps37
  go_wp2
  go_ret2
  exact ⟨by rfl, by exact HB.out⟩
 rw [if_neg c2] at H
 have c2b0 : decide (65535 < (a0.size : Int)) = false := decide_eq_false c2
 have c2b1 : decide (65535 < a0.size) = false := decide_eq_false (by omega)
 clear c2
 replace H := Option.bind_eq_some_iff.mp H
 obtain ⟨t138, A30, H⟩ := H
 replace H : (if t138.size + a0.size ≤ 9223372036854775807 then (some (t138 ++ a0, true)) else (none)) = some (r1, r2) := H
 have A3 := ak_ A30
 clear A30
 by_cases c4 : t138.size + a0.size ≤ 9223372036854775807
 ·rw [if_pos c4] at H
  have c4b0 := eq_true c4
  have c4b1 : decide (t138.size + a0.size ≤ 9223372036854775807) = true := decide_eq_true c4
  try have c4b2 : (9223372036854775807 < t138.size + a0.size) = False := eq_false (Nat.not_lt.2 c4)
  simp only [Option.some.injEq, Prod.mk.injEq] at H
  obtain ⟨rfl, rfl⟩ := H
  go_enter Try.func37, Try.ntmps37
  go_wp2_with (first | ((with_reducible refine gate_callee (f := 39) rfl ?_); refine goesL_ (some 10) rfl rfl Try.func39 (by kernel_rfl) rfl #[.int .u16 (IntKind.u16.wrap ((a0.size : Int)))] rfl (by (try simp only [List.map_toArray, List.map_cons, List.map_nil]); first | rfl) ?_; (with_reducible refine (octet_Put16.calls k (IntKind.u16.wrap ((a0.size : Int))) t138 _ A3.out).mono ?_); rintro e w5 ⟨rfl, hb⟩; refine ⟨_, rfl, ?_⟩; replace HB := bs_ HB hb; (try clear hb)))
  go_ret2
  exact ⟨by rfl, by exact HB.out⟩
 rw [if_neg c4] at H
 exact absurd H (by simp)

def opt6_Emit.l : List S42 → ByteArray → Option (ByteArray × Int)
  | [], acc => some (acc, 0)
  | x :: l, acc => (octet_Run.f 300 x.f1).bind fun r => if r.2 = true then (octet_Put16.f 300 x.f0).bind fun p => if acc.size + p.size + r.1.size ≤ 140737488355328 then opt6_Emit.l l (acc ++ p ++ r.1) else none else some ((⟨#[]⟩ : ByteArray), 130)
def opt6_Emit.f (l0 : List S42) : Option (ByteArray × Int) := if (l0.length : Int) > 128 then some ((⟨#[]⟩ : ByteArray), 6) else opt6_Emit.l l0 (⟨#[]⟩ : ByteArray)
set_option maxHeartbeats 4000000 in
set_option maxRecDepth 100000 in
theorem opt6_Emit.calls (A0 : Option Addr) (c0 : Nat) (l0 : List S42) (r1 : ByteArray) (r2 : Int) (w : World) (hr0 : Kd.C k42 w A0 l0.length l0) (hc0 : l0.length ≤ c0) (h : opt6_Emit.f l0 = some (r1, r2)) :
 Calls Try.prog 20 #[.slice A0 l0.length c0] w fun e w' => e = .returned (.tuple #[.string r1, .int .i64 r2]) ∧ Below w.heap.size w w' := by
 unfold opt6_Emit.f at h
 have hmax : l0.length ≤ 9223372036854775807 := Kd.C_max hr0
 by_cases c : (l0.length : Int) > 128
 ·rw [if_pos c] at h
  simp only [Option.some.injEq, Prod.mk.injEq] at h
  obtain ⟨rfl, rfl⟩ := h
  have cb : decide ((128 : Int) < (l0.length : Int)) = true := decide_eq_true c
  clear hr0 hc0
  go_enter Try.func20, Try.ntmps20
  go_wp2
  go_ret2
  exact ⟨rfl, Below.refl _ _⟩
 rw [if_neg c] at h
 have hlen : l0.length ≤ 128 := by omega
 have H := Lib.hid h
 have HR := ak_ hr0
 have HLen := ak_ hlen
 have hu := Try.underlying42
 have hi42 : (Try.prog.info? 42).map (·.size) = some 2 := by kernel_rfl
 clear h hr0 hc0 hlen
 go_enter Try.func20, Try.ntmps20
 go_wp2
 have IS0 := ak_ (Bld.Is.new 78 5 w)
 have HB0 := ak_ ((Below.refl w.heap.size w).alloc (Nat.le_refl _) (.cells #[.pointer none, .slice none 0 0] 78))
 go_loopg [14] l0.length (fun gg s14 wr => ∃ (kk : Nat) (acc : ByteArray), Aside0 (kk ≤ l0.length ∧ l0.length - kk ≤ gg) ∧ s14 = .int .i64 kk ∧ Aside0 (opt6_Emit.l (l0.drop kk) acc = some (r1, r2)) ∧ Aside0 (Bld.Is 78 5 w.heap.size w.heap.size acc wr) ∧ Aside0 (Below w.heap.size w wr))
 case atStart => exact ⟨0, (⟨#[]⟩ : ByteArray), ⟨Nat.zero_le _, by omega⟩, rfl, ⟨H.out⟩, IS0, HB0⟩
 case round =>
 clear H IS0 HB0
 obtain ⟨kk, acc, HK, rfl, H, IS, HB⟩ := hrel
 by_cases hlt : kk < l0.length
 ·have hltz : (kk : Int) < (l0.length : Int) := by omega
  obtain ⟨ad, rfl, hc0, hc1⟩ := at_T42 (Kd.C_below HR.out HB.out) (kk : Int) (by omega) hltz
  simp only [Int.toNat_natCast] at hc0 hc1
  have hd : l0.drop kk = (rd_T42 l0 (kk : Int)) :: l0.drop (kk + 1) := by
   rw [List.drop_eq_getElem_cons hlt]
   simp [rd_T42, List.getD_eq_getElem?_getD, List.getElem?_eq_getElem hlt]
  have h := H.out
  rw [hd, opt6_Emit.l] at h
  obtain ⟨⟨rs, rb⟩, hrun, h⟩ := Option.bind_eq_some_iff.1 h
  dsimp only at h
  clear hd H
  have hrc := fun W => octet_Run.calls 300 ((rd_T42 l0 (kk : Int)).f1) rs rb W hrun
  obtain ⟨x0, hx0⟩ : ∃ x, x = (rd_T42 l0 (kk : Int)).f0 := ⟨_, rfl⟩
  obtain ⟨x1, hx1⟩ : ∃ x, x = (rd_T42 l0 (kk : Int)).f1 := ⟨_, rfl⟩
  rw [← hx0] at hc0 h
  rw [← hx1] at hc1 hrc
  clear hx0 hx1 hrun
  cases rb with
  | false =>
   rw [if_neg (by decide)] at h
   simp only [Option.some.injEq, Prod.mk.injEq] at h
   obtain ⟨rfl, rfl⟩ := h
   go_wp2_with (first
    | ((with_reducible refine gate_dst (N := 6) rfl ?_); refine box_event ?hg (N := 6) ?hd (cs := #[.int .u16 0, .string (⟨#[]⟩ : ByteArray)]) (t := 42) ?hr ?_; (case hd => rfl); (case hg => rfl); (case hr => go_simp; done); intro gb hgb w8 hbox hb8; have BKz := ak_ hbox; have HB8 := ak_ hb8; have GE := ak_ (Nat.le_of_eq hgb.symm); clear hgb hbox hb8)
    | ((with_reducible refine gate_store (p := 6) rfl ?_); refine XBox.storeL_ rfl rfl 42 rfl gb rfl #[.int .u16 0, .string (⟨#[]⟩ : ByteArray)] #[.int .u16 x0, .string x1] rfl BKz.out hi42 (Eq.refl 2) (by simp [Value.oneCell']) ?_; intro wb hw1 hw2 hw3; have BK := ak_ hw1; have HBW := ak_ (HB8.out.trans (hw2 _ GE.out)); clear hw1 hw2 hw3; have hcx0 : wb.cell? ⟨gb, 0, none⟩ = some (.int .u16 x0) := (blk_cell BK.out 0).trans rfl; have hcx1 : wb.cell? ⟨gb, 1, none⟩ = some (.string x1) := (blk_cell BK.out 1).trans rfl)
    | (go_at_call 37; refine (hrc _).mono ?_; rintro e w9 ⟨rfl, hb9⟩; have HB9 := ak_ (HB.out.trans ((below_step HBW.out hb9).mono HB.out.size)); clear hb9))
   go_ret2
   exact ⟨rfl, HB9.out⟩
  | true =>
  rw [if_pos rfl] at h
  obtain ⟨p, hp, h⟩ := Option.bind_eq_some_iff.1 h
  by_cases c3 : acc.size + p.size + rs.size ≤ 140737488355328
  case neg => rw [if_neg c3] at h; cases h
  rw [if_pos c3] at h
  have H := ak_ h
  have C3 := ak_ c3
  have hpc := fun W => octet_Put16.calls 300 x0 p W hp
  have HLT := ak_ hlt
  clear hp h c3 hlt
  go_wp2_with (first
   | ((with_reducible refine gate_dst (N := 6) rfl ?_); refine box_event ?hg (N := 6) ?hd (cs := #[.int .u16 0, .string (⟨#[]⟩ : ByteArray)]) (t := 42) ?hr ?_; (case hd => rfl); (case hg => rfl); (case hr => go_simp; done); intro gb hgb w8 hbox hb8; have BKz := ak_ hbox; have HB8 := ak_ hb8; have GE := ak_ (Nat.le_of_eq hgb.symm); clear hgb hbox hb8)
   | ((with_reducible refine gate_store (p := 6) rfl ?_); refine XBox.storeL_ rfl rfl 42 rfl gb rfl #[.int .u16 0, .string (⟨#[]⟩ : ByteArray)] #[.int .u16 x0, .string x1] rfl BKz.out hi42 (Eq.refl 2) (by simp [Value.oneCell']) ?_; intro wb hw1 hw2 hw3; have BK := ak_ hw1; have HBW := ak_ (HB8.out.trans (hw2 _ GE.out)); clear hw1 hw2 hw3; have hcx0 : wb.cell? ⟨gb, 0, none⟩ = some (.int .u16 x0) := (blk_cell BK.out 0).trans rfl; have hcx1 : wb.cell? ⟨gb, 1, none⟩ = some (.string x1) := (blk_cell BK.out 1).trans rfl)
   | (go_at_call 37; refine (hrc _).mono ?_; rintro e w9 ⟨rfl, hb9⟩; have BK9 := ak_ (blk_below BK.out hb9); have HB9 := ak_ (below_step HBW.out hb9); clear hb9; have hcy0 : w9.cell? ⟨gb, 0, none⟩ = some (.int .u16 x0) := (blk_cell BK9.out 0).trans rfl)
   | (go_at_call 39; refine (hpc _).mono ?_; rintro e w10 ⟨rfl, hb10⟩; have HB10 := ak_ (below_step HB9.out hb10); have IS10 := ak_ (IS.out.below HB10.out); have HBX := ak_ (HB.out.trans (HB10.out.mono HB.out.size)); clear hb10)
   | (go_at_call 38; (with_reducible refine (bld_write w.heap.size w.heap.size acc p _ IS10.out (by have := C3.out; omega) HBX.out.size).mono ?_); rintro e w11 ⟨rfl, is11, hb11⟩; have IS11 := ak_ is11; have HB11 := ak_ (HBX.out.trans hb11); clear is11 hb11)
   | (go_at_call 38; (with_reducible refine (bld_write w.heap.size w.heap.size (acc ++ p) rs _ IS11.out (by have := C3.out; rw [ByteArray.size_append]; omega) HB11.out.size).mono ?_); rintro e w12 ⟨rfl, is12, hb12⟩; have IS12 := ak_ is12; have HB12 := ak_ (HB11.out.trans hb12); clear is12 hb12))
  go_roundg (l0.length - (kk + 1))
  case measure => have := HK.out; have := HLT.out; omega
  case rel => exact ⟨kk + 1, acc ++ p ++ rs, ⟨by have := HLT.out; omega, Nat.le_refl _⟩, by rfl, H, IS12, HB12⟩
 have hltz : ¬ (kk : Int) < (l0.length : Int) := by omega
 obtain rfl : kk = l0.length := by have := HK.out; omega
 have h := H.out
 rw [List.drop_length, opt6_Emit.l] at h
 simp only [Option.some.injEq, Prod.mk.injEq] at h
 obtain ⟨rfl, rfl⟩ := h
 have hstr := bld_string w.heap.size w.heap.size acc wr IS.out HB.out.size
 clear H
 go_wp2_with (go_at_call 40; refine hstr.mono ?_; rintro e w2 ⟨rfl, hb2⟩; have HB2 := ak_ (HB.out.trans hb2); clear hb2)
 go_ret2
 exact ⟨rfl, HB2.out⟩

-- (not needed: function 110 (bytealg_MakeNoZero))

-- (not needed: function 106 (strings_Builder_grow))

-- (not needed: function 100 (strings_Builder_Grow))

-- (not needed: function 91 (strings_Join))

-- (not needed: function 66 (opt6_option))

-- (not needed: function 67 (opt6_status))

def opt6_codeOf.f (a0 : Int) : Option (Int) := if a0 = 2 then (some 3) else (if a0 = 3 then (some 4) else (some 25))
set_option maxHeartbeats 8000000 in
set_option maxRecDepth 100000 in
theorem opt6_codeOf.calls (a0 : Int) (r : Int) (w : World) (h : opt6_codeOf.f a0 = some r) :
 Calls Try.prog 68 #[.int .i64 a0] w fun e w' => e = .returned (.int .u16 r) ∧ Drawn0 w w' := by
 have H : (if a0 = 2 then (some 3) else (if a0 = 3 then (some 4) else (some 25))) = some r := h
 clear h
 by_cases c2 : a0 = 2
 ·rw [if_pos c2] at H
  have c2b0 : (a0 == 2) = true := beq_iff_eq.mpr c2
  have c2b1 : (a0 != 2) = false := bne_eq_false_iff_eq.mpr c2
  clear c2
  obtain rfl := Option.some.inj H
  go_enter Try.func68, Try.ntmps68
  go_wp2
  go_ret
  exact ⟨by rfl, by repeat (first | exact Drawn0.refl _)⟩
 rw [if_neg c2] at H
 have c2b0 : (a0 == 2) = false := beq_eq_false_iff_ne.mpr c2
 have c2b1 : (a0 != 2) = true := bne_iff_ne.mpr c2
 by_cases c3 : a0 = 3
 ·rw [if_pos c3] at H
  have c3b0 : (a0 == 3) = true := beq_iff_eq.mpr c3
  have c3b1 : (a0 != 3) = false := bne_eq_false_iff_eq.mpr c3
  clear c3
  obtain rfl := Option.some.inj H
  go_enter Try.func68, Try.ntmps68
  go_wp2
  go_ret
  exact ⟨by rfl, by repeat (first | exact Drawn0.refl _)⟩
 rw [if_neg c3] at H
 have c3b0 : (a0 == 3) = false := beq_eq_false_iff_ne.mpr c3
 have c3b1 : (a0 != 3) = true := bne_iff_ne.mpr c3
 obtain rfl := Option.some.inj H
 go_enter Try.func68, Try.ntmps68
 go_wp2
 go_ret
 exact ⟨by rfl, by repeat (first | exact Drawn0.refl _)⟩

theorem kO6_single {w : World} {g : Nat} (x : S42) (h0 : w.cell? ⟨g, 0, none⟩ = some (.int .u16 x.f0)) (h1 : w.cell? ⟨g, 1, none⟩ = some (.string x.f1)) : Kd.C k42 w (some ⟨g, 0, none⟩) [x].length [x] := by
 refine ⟨rfl, by simp, fun _ => ⟨_, rfl, ?_⟩⟩
 intro j p hj
 match j, hj with
 | 0, hj =>
  obtain rfl := Option.some.inj hj
  refine ⟨_, rfl, k42_mk w x, fun i u hu => ?_⟩
  rw [add_plain]
  match i, hu with
  | 0, hu => obtain rfl := Option.some.inj hu; exact h0
  | 1, hu => obtain rfl := Option.some.inj hu; exact h1
/-- Parts put one behind the other. -/
def catS (parts : List ByteArray) : ByteArray := ⟨(Lib.join (parts.map (·.data.toList)) ([] : List UInt8)).toArray⟩
def opt6_option.f (code : Int) (parts : List ByteArray) : Option ByteArray := (opt6_Emit.f [⟨code, catS parts⟩]).map (·.1)
set_option maxHeartbeats 4000000 in
set_option maxRecDepth 100000 in
theorem opt6_option.calls (code : Int) (bk o c : Nat) (parts : List ByteArray) (r : ByteArray) (w : World) (hcells : ∀ (j : Nat) x, parts[j]? = some x → w.cell? ⟨bk, o + j, none⟩ = some (.string x)) (hbk : bk < w.heap.size) (hN : parts.length ≤ 140737488355328) (hcap : parts.length ≤ c) (hlen : (Lib.join (parts.map (·.data.toList)) ([] : List UInt8)).length ≤ 140737488355328) (h : opt6_option.f code parts = some r) :
 Calls Try.prog 66 #[.int .u16 code, .slice (some ⟨bk, o, none⟩) parts.length c] w fun e w' => e = .returned (.string r) ∧ Below w.heap.size w w' := by
 have hj : Calls Try.prog 91 #[.slice (some ⟨bk, o, none⟩) parts.length c, .string (⟨#[]⟩ : ByteArray)] w fun e w' => e = .returned (.string (catS parts)) ∧ Below w.heap.size w w' := Go.Proofs.Any.strings_Join Try.bl156 Try.bx156 bk o c parts (⟨#[]⟩ : ByteArray) w hcells hbk hN hcap hlen
 unfold opt6_option.f at h
 obtain ⟨⟨r1, r2⟩, he, rfl⟩ := Option.map_eq_some_iff.1 h
 have HJ := ak_ hj
 have HE := ak_ he
 clear hj he h hcells
 generalize catS parts = d at HJ HE
 generalize parts.length = pn at HJ ⊢
 have hu40 := Try.underlying42
 go_enter Try.func66, Try.ntmps66
 go_wp2_with (first
  | (go_at_call 91; refine HJ.out.mono ?_; rintro e wj ⟨rfl, hb⟩; have HBj := ak_ hb; clear hb)
  | (go_at_call 20; refine (opt6_Emit.calls (some ⟨wj.heap.size, 0, none⟩) 1 [⟨code, d⟩] r1 r2 _ (kO6_single ⟨code, d⟩ ((blk_cell (blk_new wj _) 0).trans rfl) ((blk_cell (blk_new wj _) 1).trans rfl)) (Nat.le_refl 1) HE.out).mono ?_; rintro e we ⟨rfl, hb⟩; have HBe := ak_ (below_step (below_alloc HBj.out _) hb); clear hb))
 go_ret
 exact ⟨rfl, HBe.out⟩
def opt6_status.f (k : Nat) (code : Int) : Option ByteArray := if code = -1 then some (⟨#[]⟩ : ByteArray) else (opt6_PutStatus.f k code).bind fun d => if d.size ≤ 140737488355328 then opt6_option.f 13 [d] else none
theorem join_one_ (d : ByteArray) : (Lib.join ([d].map (·.data.toList)) ([] : List UInt8)).length = d.size := by
 rw [List.map_cons, List.map_nil, Lib.join_one]
 exact data_length d
theorem cells_one {w : World} {g : Nat} {s : ByteArray} (h : w.cell? ⟨g, 0, none⟩ = some (.string s)) : ∀ (j : Nat) x, [s][j]? = some x → w.cell? ⟨g, 0 + j, none⟩ = some (.string x) := fun j x hx => by
 match j, hx with
 | 0, hx => obtain rfl := Option.some.inj hx; exact h
set_option maxHeartbeats 4000000 in
set_option maxRecDepth 100000 in
theorem opt6_status.calls (k : Nat) (code : Int) (r : ByteArray) (w : World) (h : opt6_status.f k code = some r) :
 Calls Try.prog 67 #[.int .i64 code] w fun e w' => e = .returned (.string r) ∧ Below w.heap.size w w' := by
 unfold opt6_status.f at h
 by_cases hc : code = -1
 ·rw [if_pos hc] at h
  obtain rfl := Option.some.inj h
  subst hc
  clear h
  go_enter Try.func67, Try.ntmps67
  go_wp2
  go_ret
  exact ⟨rfl, Below.refl _ _⟩
 rw [if_neg hc] at h
 obtain ⟨d, hd, h⟩ := Option.bind_eq_some_iff.1 h
 by_cases hz : d.size ≤ 140737488355328
 case neg => rw [if_neg hz] at h; cases h
 rw [if_pos hz] at h
 have HD := ak_ hd
 have HO := ak_ h
 have HZ := ak_ hz
 have hcb : (code == -1) = false := by simpa using hc
 clear hd h hz
 go_enter Try.func67, Try.ntmps67
 go_wp2_with (first
  | (go_at_call 42; refine (opt6_PutStatus.calls k code d _ HD.out).mono ?_; rintro e wj ⟨rfl, hb⟩; have HBj := ak_ hb; clear hb)
  | (go_at_call 66; refine (opt6_option.calls 13 wj.heap.size 0 1 [d] r _ (cells_one ((blk_cell (blk_new wj _) 0).trans rfl)) (by simp) (by show 1 ≤ 140737488355328; omega) (Nat.le_refl 1) (by rw [join_one_]; exact HZ.out) HO.out).mono ?_; rintro e we ⟨rfl, hb⟩; have HBe := ak_ (below_step (below_alloc HBj.out _) hb); clear hb))
 go_ret
 exact ⟨rfl, HBe.out⟩
def putTimesV (Ba : Nat) (t1 t2 : Int) (p q : ByteArray) : Nat → Value → World → Prop
  | 0, v, _ => v = .pointer (some ⟨Ba, 2, none⟩)
  | 1, v, _ => v = .int .u32 t1
  | 2, v, _ => v = .string p
  | 3, v, _ => v = .pointer (some ⟨Ba, 3, none⟩)
  | 4, v, _ => v = .int .u32 t2
  | 5, v, _ => v = .string q
  | 6, v, _ => v = .string (p ++ q)
  | _, _, _ => True
set_option maxHeartbeats 4000000 in
set_option maxRecDepth 100000 in
theorem putTimes (ops : Array Oper) (hops : ops = opsOf Try.f43 6) (id : Nat) (Q : Exit → Act → World → Prop) (act : Act) (w : World) (hsz0 : act.tmps.size = 81) (k : Nat) (Ba Bb : Nat) (kind iaid t1 t2 : Int) (hasv : Value) (code : Int) (acc p q : ByteArray)
 (h1 : act.eval (.tmp 1) = .pointer (some ⟨Ba, 0, none⟩)) (h4 : act.eval (.tmp 4) = .pointer (some ⟨Bb, 0, none⟩))
 (ba : w.heap[Ba]? = some (.cells #[.int .i64 kind, .int .u32 iaid, .int .u32 t1, .int .u32 t2, hasv, .int .i64 code] 51 (0, 0)))
 (hIs : Bld.Is 78 5 Bb Bb acc w) (hBb : Bb ≤ w.heap.size)
 (hp : octet_Put32.f k t1 = some p) (hq : octet_Put32.f k t2 = some q) (hz : acc.size + (p ++ q).size ≤ 140737488355328)
 (hK : ∀ (u : Tmp → Value) (v : Value) (W : World), Bld.Is 78 5 Bb Bb (acc ++ (p ++ q)) W → Below Bb w W → Q .normal ((XReg.fills u [20, 21, 22, 23, 24, 25, 26] act).put (some 27) v) W) :
 (Code.region id ops true).wp Try.prog Q act w := by
 subst hops
 refine (wpIn_wide (n := 9)).1 (XReg.region_runD (by kernel_rfl) 7 (by rw [hsz0]; kernel_rfl) (putTimesV Ba t1 t2 p q)
  (fun w' => Below w.heap.size w w') ?_ (fun w1 w2 h1 h2 => below_step h1 h2) ((Below.refl _ w).drew) ?_ ?_)
 ·intro i v w1 w2 hv hb
  match i, hv with
  | 0, hv | 1, hv | 2, hv | 3, hv | 4, hv | 5, hv | 6, hv => exact hv
  | _ + 7, _ => trivial
 ·intro i o a' w' hi ho hB hdf hr hd
  have ca := blk_below ba hB
  have hcases : i = 0 ∨ i = 1 ∨ i = 2 ∨ i = 3 ∨ i = 4 ∨ i = 5 ∨ i = 6 := by omega
  rcases hcases with rfl | rfl | rfl | rfl | rfl | rfl | rfl
  ·obtain ⟨hop, hdst⟩ := XReg.op_is (x := .fieldAddr 51 (.tmp 1) 2) (d := some 20) ho (by kernel_rfl)
   have e0 := (hr 1 (by kernel_rfl)).trans h1
   have hu0 := Try.underlying51
   refine XReg.val_ (v := .pointer (some ⟨Ba, 2, none⟩)) (w1 := w') (by rw [hop]; intro c h; cases h) (by simp [Oper.about, hop]) ?_ ⟨_, rfl, Below.refl _ _, rfl⟩
   unfold execOp
   rw [hop]
   clear hr hd hB
   generalize a'.eval = ρ at e0 ⊢
   go_simp
  ·obtain ⟨hop, hdst⟩ := XReg.op_is (x := .load 22 (.tmp 20)) (d := some 21) ho (by kernel_rfl)
   have e0 : a'.eval (.tmp 20) = .pointer (some ⟨Ba, 2, none⟩) := hd 0 20 (by kernel_rfl) (by omega)
   have hc : w'.cell? ⟨Ba, 2, none⟩ = some (.int .u32 t1) := (blk_cell ca 2).trans rfl
   have hu0 := Try.underlying22
   refine XReg.val_ (v := .int .u32 t1) (w1 := w') (by rw [hop]; intro c h; cases h) (by simp [Oper.about, hop]) ?_ ⟨_, rfl, Below.refl _ _, rfl⟩
   unfold execOp
   rw [hop]
   clear hr hd hB
   generalize a'.eval = ρ at e0 ⊢
   go_simp
  ·obtain ⟨hop, hdst⟩ := XReg.op_is (x := .call { callee := .value (.func 23), args := #[.tmp 21], argTypes := #[22] }) (d := some 22) ho (by kernel_rfl)
   have e0 : a'.eval (.tmp 21) = .int .u32 t1 := hd 1 21 (by kernel_rfl) (by omega)
   refine XReg.call_ (ro := none) Try.func23 (by kernel_rfl) rfl #[.int .u32 t1] hop (by simp [e0]) ?_
   refine (octet_Put32.calls k t1 p w' hp).mono ?_
   rintro e w2 ⟨rfl, hb2⟩
   exact ⟨_, rfl, _, rfl, hb2, rfl⟩
  ·obtain ⟨hop, hdst⟩ := XReg.op_is (x := .fieldAddr 51 (.tmp 1) 3) (d := some 23) ho (by kernel_rfl)
   have e0 := (hr 1 (by kernel_rfl)).trans h1
   have hu0 := Try.underlying51
   refine XReg.val_ (v := .pointer (some ⟨Ba, 3, none⟩)) (w1 := w') (by rw [hop]; intro c h; cases h) (by simp [Oper.about, hop]) ?_ ⟨_, rfl, Below.refl _ _, rfl⟩
   unfold execOp
   rw [hop]
   clear hr hd hB
   generalize a'.eval = ρ at e0 ⊢
   go_simp
  ·obtain ⟨hop, hdst⟩ := XReg.op_is (x := .load 22 (.tmp 23)) (d := some 24) ho (by kernel_rfl)
   have e0 : a'.eval (.tmp 23) = .pointer (some ⟨Ba, 3, none⟩) := hd 3 23 (by kernel_rfl) (by omega)
   have hc : w'.cell? ⟨Ba, 3, none⟩ = some (.int .u32 t2) := (blk_cell ca 3).trans rfl
   have hu0 := Try.underlying22
   refine XReg.val_ (v := .int .u32 t2) (w1 := w') (by rw [hop]; intro c h; cases h) (by simp [Oper.about, hop]) ?_ ⟨_, rfl, Below.refl _ _, rfl⟩
   unfold execOp
   rw [hop]
   clear hr hd hB
   generalize a'.eval = ρ at e0 ⊢
   go_simp
  ·obtain ⟨hop, hdst⟩ := XReg.op_is (x := .call { callee := .value (.func 23), args := #[.tmp 24], argTypes := #[22] }) (d := some 25) ho (by kernel_rfl)
   have e0 : a'.eval (.tmp 24) = .int .u32 t2 := hd 4 24 (by kernel_rfl) (by omega)
   refine XReg.call_ (ro := none) Try.func23 (by kernel_rfl) rfl #[.int .u32 t2] hop (by simp [e0]) ?_
   refine (octet_Put32.calls k t2 q w' hq).mono ?_
   rintro e w2 ⟨rfl, hb2⟩
   exact ⟨_, rfl, _, rfl, hb2, rfl⟩
  obtain ⟨hop, hdst⟩ := XReg.op_is (x := .binOp .add 9 (.tmp 22) (.tmp 25) 9) (d := some 26) ho (by kernel_rfl)
  have e0 : a'.eval (.tmp 22) = .string p := hd 2 22 (by kernel_rfl) (by omega)
  have e1 : a'.eval (.tmp 25) = .string q := hd 5 25 (by kernel_rfl) (by omega)
  have hu0 := Try.underlying9
  refine XReg.val_ (v := .string (p ++ q)) (w1 := w') (by rw [hop]; intro c h; cases h) (by simp [Oper.about, hop]) ?_ ⟨_, rfl, Below.refl _ _, rfl⟩
  unfold execOp
  rw [hop]
  clear hr hd hB
  have hs : (p).size + (q).size ≤ 9223372036854775807 := by have := hz; rw [ByteArray.size_append] at this; omega
  generalize a'.eval = ρ at e0 e1 ⊢
  go_simp
 intro o a' w' ho hB hdf hsz' hr hd
 have ca := blk_below ba hB
 have hfill := XReg.fill_eq [20, 21, 22, 23, 24, 25, 26] hsz' hdf (XReg.rest_of (ops := opsOf Try.f43 6) (m := 7) (by kernel_rfl) hr)
 obtain ⟨hop, hdst⟩ := XReg.op_is (x := .call { callee := .value (.func 38), args := #[.tmp 4, .tmp 26], argTypes := #[78, 9] }) (d := some 27) ho (by kernel_rfl)
 have e0 := (hr 4 (by kernel_rfl)).trans h4
 have e1 : a'.eval (.tmp 26) = .string (p ++ q) := hd 6 26 (by kernel_rfl) (by omega)
 refine XReg.call_ (ro := none) Try.func38 (by kernel_rfl) rfl #[.pointer (some ⟨Bb, 0, none⟩), .string (p ++ q)] hop (by simp [e0, e1]) ?_
 refine (bld_write Bb Bb acc (p ++ q) w' (hIs.below hB) hz (Nat.le_trans hBb hB.size)).mono ?_
 rintro e w2 ⟨rfl, is2, hb2⟩
 refine ⟨_, rfl, ?_⟩
 rw [hdst, hfill]
 exact hK _ _ w2 is2 ((hB.mono hBb).trans hb2)
def putPrefV (Bx : Nat) (x : S58) (p q : ByteArray) : Nat → Value → World → Prop
  | 0, v, _ => v = .pointer (some ⟨Bx, 3, none⟩)
  | 1, v, _ => v = .int .u32 x.f1
  | 2, v, _ => v = .string p
  | 3, v, _ => v = .pointer (some ⟨Bx, 4, none⟩)
  | 4, v, _ => v = .int .u32 x.f2
  | 5, v, _ => v = .string q
  | 6, v, _ => v = .string (p ++ q)
  | _, _, _ => True
set_option maxHeartbeats 4000000 in
set_option maxRecDepth 100000 in
theorem putPref (ops : Array Oper) (hops : ops = opsOf Try.f43 10) (id : Nat) (Q : Exit → Act → World → Prop) (act : Act) (w : World) (hsz0 : act.tmps.size = 81) (k : Nat) (Bx : Nat) (x : S58) (p q : ByteArray)
 (h6 : act.eval (.tmp 6) = .pointer (some ⟨Bx, 0, none⟩))
 (bx : w.heap[Bx]? = some (.cells #[.int .u64 x.f0.f0.f0, .int .u64 x.f0.f0.f1, .int .i64 x.f0.f1, .int .u32 x.f1, .int .u32 x.f2, .int .i64 x.f3] 58 (0, 0)))
 (hp : octet_Put32.f k x.f1 = some p) (hq : octet_Put32.f k x.f2 = some q) (hz : (p ++ q).size ≤ 140737488355328)
 (hK : ∀ (u : Tmp → Value) (W : World), Below w.heap.size w W → Q .normal ((XReg.fills u [35, 36, 37, 38, 39, 40, 41] act).put (some 7) (.string (p ++ q))) W) :
 (Code.region id ops true).wp Try.prog Q act w := by
 subst hops
 refine (wpIn_wide (n := 9)).1 (XReg.region_runD (by kernel_rfl) 7 (by rw [hsz0]; kernel_rfl) (putPrefV Bx x p q)
  (fun w' => Below w.heap.size w w') ?_ (fun w1 w2 h1 h2 => below_step h1 h2) ((Below.refl _ w).drew) ?_ ?_)
 ·intro i v w1 w2 hv hb
  match i, hv with
  | 0, hv | 1, hv | 2, hv | 3, hv | 4, hv | 5, hv | 6, hv => exact hv
  | _ + 7, _ => trivial
 ·intro i o a' w' hi ho hB hdf hr hd
  have cx := blk_below bx hB
  have hcases : i = 0 ∨ i = 1 ∨ i = 2 ∨ i = 3 ∨ i = 4 ∨ i = 5 ∨ i = 6 := by omega
  rcases hcases with rfl | rfl | rfl | rfl | rfl | rfl | rfl
  ·obtain ⟨hop, hdst⟩ := XReg.op_is (x := .fieldAddr 58 (.tmp 6) 1) (d := some 35) ho (by kernel_rfl)
   have e0 := (hr 6 (by kernel_rfl)).trans h6
   have hu0 := Try.underlying58
   refine XReg.val_ (v := .pointer (some ⟨Bx, 3, none⟩)) (w1 := w') (by rw [hop]; intro c h; cases h) (by simp [Oper.about, hop]) ?_ ⟨_, rfl, Below.refl _ _, rfl⟩
   unfold execOp
   rw [hop]
   clear hr hd hB
   generalize a'.eval = ρ at e0 ⊢
   go_simp
  ·obtain ⟨hop, hdst⟩ := XReg.op_is (x := .load 22 (.tmp 35)) (d := some 36) ho (by kernel_rfl)
   have e0 : a'.eval (.tmp 35) = .pointer (some ⟨Bx, 3, none⟩) := hd 0 35 (by kernel_rfl) (by omega)
   have hc : w'.cell? ⟨Bx, 3, none⟩ = some (.int .u32 x.f1) := (blk_cell cx 3).trans rfl
   have hu0 := Try.underlying22
   refine XReg.val_ (v := .int .u32 x.f1) (w1 := w') (by rw [hop]; intro c h; cases h) (by simp [Oper.about, hop]) ?_ ⟨_, rfl, Below.refl _ _, rfl⟩
   unfold execOp
   rw [hop]
   clear hr hd hB
   generalize a'.eval = ρ at e0 ⊢
   go_simp
  ·obtain ⟨hop, hdst⟩ := XReg.op_is (x := .call { callee := .value (.func 23), args := #[.tmp 36], argTypes := #[22] }) (d := some 37) ho (by kernel_rfl)
   have e0 : a'.eval (.tmp 36) = .int .u32 x.f1 := hd 1 36 (by kernel_rfl) (by omega)
   refine XReg.call_ (ro := none) Try.func23 (by kernel_rfl) rfl #[.int .u32 x.f1] hop (by simp [e0]) ?_
   refine (octet_Put32.calls k x.f1 p w' hp).mono ?_
   rintro e w2 ⟨rfl, hb2⟩
   exact ⟨_, rfl, _, rfl, hb2, rfl⟩
  ·obtain ⟨hop, hdst⟩ := XReg.op_is (x := .fieldAddr 58 (.tmp 6) 2) (d := some 38) ho (by kernel_rfl)
   have e0 := (hr 6 (by kernel_rfl)).trans h6
   have hu0 := Try.underlying58
   refine XReg.val_ (v := .pointer (some ⟨Bx, 4, none⟩)) (w1 := w') (by rw [hop]; intro c h; cases h) (by simp [Oper.about, hop]) ?_ ⟨_, rfl, Below.refl _ _, rfl⟩
   unfold execOp
   rw [hop]
   clear hr hd hB
   generalize a'.eval = ρ at e0 ⊢
   go_simp
  ·obtain ⟨hop, hdst⟩ := XReg.op_is (x := .load 22 (.tmp 38)) (d := some 39) ho (by kernel_rfl)
   have e0 : a'.eval (.tmp 38) = .pointer (some ⟨Bx, 4, none⟩) := hd 3 38 (by kernel_rfl) (by omega)
   have hc : w'.cell? ⟨Bx, 4, none⟩ = some (.int .u32 x.f2) := (blk_cell cx 4).trans rfl
   have hu0 := Try.underlying22
   refine XReg.val_ (v := .int .u32 x.f2) (w1 := w') (by rw [hop]; intro c h; cases h) (by simp [Oper.about, hop]) ?_ ⟨_, rfl, Below.refl _ _, rfl⟩
   unfold execOp
   rw [hop]
   clear hr hd hB
   generalize a'.eval = ρ at e0 ⊢
   go_simp
  ·obtain ⟨hop, hdst⟩ := XReg.op_is (x := .call { callee := .value (.func 23), args := #[.tmp 39], argTypes := #[22] }) (d := some 40) ho (by kernel_rfl)
   have e0 : a'.eval (.tmp 39) = .int .u32 x.f2 := hd 4 39 (by kernel_rfl) (by omega)
   refine XReg.call_ (ro := none) Try.func23 (by kernel_rfl) rfl #[.int .u32 x.f2] hop (by simp [e0]) ?_
   refine (octet_Put32.calls k x.f2 q w' hq).mono ?_
   rintro e w2 ⟨rfl, hb2⟩
   exact ⟨_, rfl, _, rfl, hb2, rfl⟩
  obtain ⟨hop, hdst⟩ := XReg.op_is (x := .binOp .add 9 (.tmp 37) (.tmp 40) 9) (d := some 41) ho (by kernel_rfl)
  have e0 : a'.eval (.tmp 37) = .string p := hd 2 37 (by kernel_rfl) (by omega)
  have e1 : a'.eval (.tmp 40) = .string q := hd 5 40 (by kernel_rfl) (by omega)
  have hu0 := Try.underlying9
  refine XReg.val_ (v := .string (p ++ q)) (w1 := w') (by rw [hop]; intro c h; cases h) (by simp [Oper.about, hop]) ?_ ⟨_, rfl, Below.refl _ _, rfl⟩
  unfold execOp
  rw [hop]
  clear hr hd hB
  have hs : (p).size + (q).size ≤ 9223372036854775807 := by have := hz; rw [ByteArray.size_append] at this; omega
  generalize a'.eval = ρ at e0 e1 ⊢
  go_simp
 intro o a' w' ho hB hdf hsz' hr hd
 have cx := blk_below bx hB
 have hfill := XReg.fill_eq [35, 36, 37, 38, 39, 40, 41] hsz' hdf (XReg.rest_of (ops := opsOf Try.f43 10) (m := 7) (by kernel_rfl) hr)
 obtain ⟨hop, hdst⟩ := XReg.op_is (x := .assign (.tmp 41)) (d := some 7) ho (by kernel_rfl)
 have e1 : a'.eval (.tmp 41) = .string (p ++ q) := hd 6 41 (by kernel_rfl) (by omega)
 refine XReg.val_ (v := .string (p ++ q)) (w1 := w') (by rw [hop]; intro c h; cases h) (by simp [Oper.about, hop]) ?_ (by rw [hdst, hfill]; exact hK _ w' hB)
 unfold execOp
 rw [hop]
 clear hr hd hB hfill
 generalize a'.eval = ρ at e1 ⊢
 go_simp
theorem cells_four {w : World} {g : Nat} {a b c d : ByteArray} (h : w.heap[g]? = some (.cells #[.string a, .string b, .string c, .string d] 9 (0, 0))) : ∀ (j : Nat) x, [a, b, c, d][j]? = some x → w.cell? ⟨g, 0 + j, none⟩ = some (.string x) := fun j x hx => by
 rw [Nat.zero_add]
 match j, hx with
 | 0, hx => obtain rfl := Option.some.inj hx; exact (blk_cell h 0).trans rfl
 | 1, hx => obtain rfl := Option.some.inj hx; exact (blk_cell h 1).trans rfl
 | 2, hx => obtain rfl := Option.some.inj hx; exact (blk_cell h 2).trans rfl
 | 3, hx => obtain rfl := Option.some.inj hx; exact (blk_cell h 3).trans rfl
def putDelegV (Bx : Nat) (x : S58) (tv wh st os : ByteArray) : Nat → Value → World → Prop
  | 0, v, _ => v = .string tv
  | 1, v, _ => v = .pointer (some ⟨Bx, 0, none⟩)
  | 2, v, _ => v = .pointer (some ⟨Bx, 2, none⟩)
  | 3, v, _ => v = .int .i64 x.f0.f1
  | 4, v, _ => v = .int .u8 (x.f0.f1 % 256)
  | 5, v, w => ∃ g, v = .slice (some ⟨g, 0, none⟩) 1 1 ∧ w.heap[g]? = some (.cells #[.int .u8 (x.f0.f1 % 256)] 5 (0, 0))
  | 6, v, _ => v = .string (strOfNums [x.f0.f1 % 256])
  | 7, v, _ => v = .string wh
  | 8, v, _ => v = .pointer (some ⟨Bx, 5, none⟩)
  | 9, v, _ => v = .int .i64 x.f3
  | 10, v, _ => v = .string st
  | 11, v, w => ∃ g, v = .slice (some ⟨g, 0, none⟩) 4 4 ∧ w.heap[g]? = some (.cells #[.string tv, .string (strOfNums [x.f0.f1 % 256]), .string wh, .string st] 9 (0, 0))
  | 12, v, _ => v = .string os
  | _, _, _ => True
set_option maxHeartbeats 4000000 in
set_option maxRecDepth 100000 in
theorem putDeleg (ops : Array Oper) (hops : ops = opsOf Try.f43 13) (id : Nat) (Q : Exit → Act → World → Prop) (act : Act) (w : World) (hsz0 : act.tmps.size = 81) (k : Nat) (Bx Bb : Nat) (x : S58) (acc tv wh st os : ByteArray)
 (h4 : act.eval (.tmp 4) = .pointer (some ⟨Bb, 0, none⟩)) (h6 : act.eval (.tmp 6) = .pointer (some ⟨Bx, 0, none⟩)) (h7 : act.eval (.tmp 7) = .string tv) (h8 : act.eval (.tmp 8) = .string wh)
 (bx : w.heap[Bx]? = some (.cells #[.int .u64 x.f0.f0.f0, .int .u64 x.f0.f0.f1, .int .i64 x.f0.f1, .int .u32 x.f1, .int .u32 x.f2, .int .i64 x.f3] 58 (0, 0)))
 (hIs : Bld.Is 78 5 Bb Bb acc w) (hBb : Bb ≤ w.heap.size)
 (hst : opt6_status.f k x.f3 = some st) (hos : opt6_option.f 26 [tv, strOfNums [x.f0.f1 % 256], wh, st] = some os) (hl : (Lib.join ([tv, strOfNums [x.f0.f1 % 256], wh, st].map (·.data.toList)) ([] : List UInt8)).length ≤ 140737488355328) (hz : acc.size + os.size ≤ 140737488355328)
 (hK : ∀ (u : Tmp → Value) (v : Value) (W : World), Bld.Is 78 5 Bb Bb (acc ++ (os)) W → Below Bb w W → Q .normal ((XReg.fills u [49, 50, 51, 52, 53, 54, 55, 56, 57, 58, 59, 60, 61] act).put (some 62) v) W) :
 (Code.region id ops true).wp Try.prog Q act w := by
 subst hops
 refine (wpIn_wide (n := 9)).1 (XReg.region_runD (by kernel_rfl) 13 (by rw [hsz0]; kernel_rfl) (putDelegV Bx x tv wh st os)
  (fun w' => Below w.heap.size w w') ?_ (fun w1 w2 h1 h2 => below_step h1 h2) ((Below.refl _ w).drew) ?_ ?_)
 ·intro i v w1 w2 hv hb
  match i, hv with
  | 5, ⟨g, e, hg⟩ => exact ⟨g, e, blk_below hg hb⟩
  | 11, ⟨g, e, hg⟩ => exact ⟨g, e, blk_below hg hb⟩
  | 0, hv | 1, hv | 2, hv | 3, hv | 4, hv | 6, hv | 7, hv | 8, hv | 9, hv | 10, hv | 12, hv => exact hv
  | _ + 13, _ => trivial
 ·intro i o a' w' hi ho hB hdf hr hd
  have cx := blk_below bx hB
  have hcases : i = 0 ∨ i = 1 ∨ i = 2 ∨ i = 3 ∨ i = 4 ∨ i = 5 ∨ i = 6 ∨ i = 7 ∨ i = 8 ∨ i = 9 ∨ i = 10 ∨ i = 11 ∨ i = 12 := by omega
  rcases hcases with rfl | rfl | rfl | rfl | rfl | rfl | rfl | rfl | rfl | rfl | rfl | rfl | rfl
  ·obtain ⟨hop, hdst⟩ := XReg.op_is (x := .move (.tmp 7)) (d := some 49) ho (by kernel_rfl)
   have e0 := (hr 7 (by kernel_rfl)).trans h7
   refine XReg.val_ (v := .string tv) (w1 := w') (by rw [hop]; intro c h; cases h) (by simp [Oper.about, hop]) ?_ ⟨_, rfl, Below.refl _ _, rfl⟩
   unfold execOp
   rw [hop]
   clear hr hd hB
   generalize a'.eval = ρ at e0 ⊢
   go_simp
  ·obtain ⟨hop, hdst⟩ := XReg.op_is (x := .fieldAddr 58 (.tmp 6) 0) (d := some 50) ho (by kernel_rfl)
   have e0 := (hr 6 (by kernel_rfl)).trans h6
   have hu0 := Try.underlying58
   refine XReg.val_ (v := .pointer (some ⟨Bx, 0, none⟩)) (w1 := w') (by rw [hop]; intro c h; cases h) (by simp [Oper.about, hop]) ?_ ⟨_, rfl, Below.refl _ _, rfl⟩
   unfold execOp
   rw [hop]
   clear hr hd hB
   generalize a'.eval = ρ at e0 ⊢
   go_simp
  ·obtain ⟨hop, hdst⟩ := XReg.op_is (x := .fieldAddr 56 (.tmp 50) 1) (d := some 51) ho (by kernel_rfl)
   have e0 : a'.eval (.tmp 50) = .pointer (some ⟨Bx, 0, none⟩) := hd 1 50 (by kernel_rfl) (by omega)
   have hu0 := Try.underlying56
   refine XReg.val_ (v := .pointer (some ⟨Bx, 2, none⟩)) (w1 := w') (by rw [hop]; intro c h; cases h) (by simp [Oper.about, hop]) ?_ ⟨_, rfl, Below.refl _ _, rfl⟩
   unfold execOp
   rw [hop]
   clear hr hd hB
   generalize a'.eval = ρ at e0 ⊢
   go_simp
  ·obtain ⟨hop, hdst⟩ := XReg.op_is (x := .load 3 (.tmp 51)) (d := some 52) ho (by kernel_rfl)
   have e0 : a'.eval (.tmp 51) = .pointer (some ⟨Bx, 2, none⟩) := hd 2 51 (by kernel_rfl) (by omega)
   have hc : w'.cell? ⟨Bx, 2, none⟩ = some (.int .i64 x.f0.f1) := (blk_cell cx 2).trans rfl
   have hu0 := Try.underlying3
   refine XReg.val_ (v := .int .i64 x.f0.f1) (w1 := w') (by rw [hop]; intro c h; cases h) (by simp [Oper.about, hop]) ?_ ⟨_, rfl, Below.refl _ _, rfl⟩
   unfold execOp
   rw [hop]
   clear hr hd hB
   generalize a'.eval = ρ at e0 ⊢
   go_simp
  ·obtain ⟨hop, hdst⟩ := XReg.op_is (x := .convert 3 5 (.tmp 52)) (d := some 53) ho (by kernel_rfl)
   have e0 : a'.eval (.tmp 52) = .int .i64 x.f0.f1 := hd 3 52 (by kernel_rfl) (by omega)
   have hu0 := Try.underlying3
   have hu1 := Try.underlying5
   refine XReg.val_ (v := .int .u8 (x.f0.f1 % 256)) (w1 := w') (by rw [hop]; intro c h; cases h) (by simp [Oper.about, hop]) ?_ ⟨_, rfl, Below.refl _ _, rfl⟩
   unfold execOp
   rw [hop]
   clear hr hd hB
   generalize a'.eval = ρ at e0 ⊢
   go_simp
   exact IntKind.wrap_u8' _
  ·obtain ⟨hop, hdst⟩ := XReg.op_is (x := .buildSlice 47 1 #[(0, .tmp 53)]) (d := some 54) ho (by kernel_rfl)
   have e0 : a'.eval (.tmp 53) = .int .u8 (x.f0.f1 % 256) := hd 4 53 (by kernel_rfl) (by omega)
   have hu0 := Try.underlying47
   have hu1 := Try.underlying5
   refine XReg.val_ (v := .slice (some ⟨w'.heap.size, 0, none⟩) 1 1) (w1 := w'.alloc (.cells #[.int .u8 (x.f0.f1 % 256)] 5)) (by rw [hop]; intro c h; cases h) (by simp [Oper.about, hop]) ?_ ⟨_, rfl, below_alloc (Below.refl _ _) _, ⟨_, rfl, blk_new w' _⟩⟩
   unfold execOp
   rw [hop]
   clear hr hd hB
   generalize a'.eval = ρ at e0 ⊢
   go_simp
  ·obtain ⟨hop, hdst⟩ := XReg.op_is (x := .convert 47 9 (.tmp 54)) (d := some 55) ho (by kernel_rfl)
   obtain ⟨g, e0, hg⟩ : ∃ g, a'.eval (.tmp 54) = .slice (some ⟨g, 0, none⟩) 1 1 ∧ w'.heap[g]? = some (.cells #[.int .u8 (x.f0.f1 % 256)] 5 (0, 0)) := hd 5 54 (by kernel_rfl) (by omega)
   have hcv := run_convert_bytes_arg (P := Try.prog) w' 47 5 Try.underlying47 Try.underlying5 g 0 1 1 [x.f0.f1 % 256] rfl (fun i hi => by
    rw [Nat.zero_add]
    match i, hi with
    | 0, _ => exact (blk_cell hg 0).trans rfl) 9 Try.underlying9
   refine XReg.val_ (v := .string (strOfNums [x.f0.f1 % 256])) (w1 := w') (by rw [hop]; intro c h; cases h) (by simp [Oper.about, hop]) ?_ ⟨_, rfl, Below.refl _ _, rfl⟩
   unfold execOp
   rw [hop]
   clear hr hd hB
   generalize a'.eval = ρ at e0 ⊢
   simp [e0, hcv, Result.andThen]
  ·obtain ⟨hop, hdst⟩ := XReg.op_is (x := .move (.tmp 8)) (d := some 56) ho (by kernel_rfl)
   have e0 := (hr 8 (by kernel_rfl)).trans h8
   refine XReg.val_ (v := .string wh) (w1 := w') (by rw [hop]; intro c h; cases h) (by simp [Oper.about, hop]) ?_ ⟨_, rfl, Below.refl _ _, rfl⟩
   unfold execOp
   rw [hop]
   clear hr hd hB
   generalize a'.eval = ρ at e0 ⊢
   go_simp
  ·obtain ⟨hop, hdst⟩ := XReg.op_is (x := .fieldAddr 58 (.tmp 6) 3) (d := some 57) ho (by kernel_rfl)
   have e0 := (hr 6 (by kernel_rfl)).trans h6
   have hu0 := Try.underlying58
   refine XReg.val_ (v := .pointer (some ⟨Bx, 5, none⟩)) (w1 := w') (by rw [hop]; intro c h; cases h) (by simp [Oper.about, hop]) ?_ ⟨_, rfl, Below.refl _ _, rfl⟩
   unfold execOp
   rw [hop]
   clear hr hd hB
   generalize a'.eval = ρ at e0 ⊢
   go_simp
  ·obtain ⟨hop, hdst⟩ := XReg.op_is (x := .load 3 (.tmp 57)) (d := some 58) ho (by kernel_rfl)
   have e0 : a'.eval (.tmp 57) = .pointer (some ⟨Bx, 5, none⟩) := hd 8 57 (by kernel_rfl) (by omega)
   have hc : w'.cell? ⟨Bx, 5, none⟩ = some (.int .i64 x.f3) := (blk_cell cx 5).trans rfl
   have hu0 := Try.underlying3
   refine XReg.val_ (v := .int .i64 x.f3) (w1 := w') (by rw [hop]; intro c h; cases h) (by simp [Oper.about, hop]) ?_ ⟨_, rfl, Below.refl _ _, rfl⟩
   unfold execOp
   rw [hop]
   clear hr hd hB
   generalize a'.eval = ρ at e0 ⊢
   go_simp
  ·obtain ⟨hop, hdst⟩ := XReg.op_is (x := .call { callee := .value (.func 67), args := #[.tmp 58], argTypes := #[3] }) (d := some 59) ho (by kernel_rfl)
   have e0 : a'.eval (.tmp 58) = .int .i64 x.f3 := hd 9 58 (by kernel_rfl) (by omega)
   refine XReg.call_ (ro := none) Try.func67 (by kernel_rfl) rfl #[.int .i64 x.f3] hop (by simp [e0]) ?_
   refine (opt6_status.calls k x.f3 st w' hst).mono ?_
   rintro e w2 ⟨rfl, hb2⟩
   exact ⟨_, rfl, _, rfl, hb2, rfl⟩
  ·obtain ⟨hop, hdst⟩ := XReg.op_is (x := .buildSlice 132 4 #[(0, .tmp 49), (1, .tmp 55), (2, .tmp 56), (3, .tmp 59)]) (d := some 60) ho (by kernel_rfl)
   have e0 : a'.eval (.tmp 49) = .string tv := hd 0 49 (by kernel_rfl) (by omega)
   have e1 : a'.eval (.tmp 55) = .string (strOfNums [x.f0.f1 % 256]) := hd 6 55 (by kernel_rfl) (by omega)
   have e2 : a'.eval (.tmp 56) = .string wh := hd 7 56 (by kernel_rfl) (by omega)
   have e3 : a'.eval (.tmp 59) = .string st := hd 10 59 (by kernel_rfl) (by omega)
   have hu0 := Try.underlying132
   have hu1 := Try.underlying9
   refine XReg.val_ (v := .slice (some ⟨w'.heap.size, 0, none⟩) 4 4) (w1 := w'.alloc (.cells #[.string tv, .string (strOfNums [x.f0.f1 % 256]), .string wh, .string st] 9)) (by rw [hop]; intro c h; cases h) (by simp [Oper.about, hop]) ?_ ⟨_, rfl, below_alloc (Below.refl _ _) _, ⟨_, rfl, blk_new w' _⟩⟩
   unfold execOp
   rw [hop]
   clear hr hd hB
   generalize a'.eval = ρ at e0 e1 e2 e3 ⊢
   go_simp
  obtain ⟨hop, hdst⟩ := XReg.op_is (x := .call { callee := .value (.func 66), args := #[.const (.int .u16 26), .tmp 60], argTypes := #[40, 132] }) (d := some 61) ho (by kernel_rfl)
  obtain ⟨g, e0, hg⟩ : ∃ g, a'.eval (.tmp 60) = .slice (some ⟨g, 0, none⟩) 4 4 ∧ w'.heap[g]? = some (.cells #[.string tv, .string (strOfNums [x.f0.f1 % 256]), .string wh, .string st] 9 (0, 0)) := hd 11 60 (by kernel_rfl) (by omega)
  refine XReg.call_ (ro := none) Try.func66 (by kernel_rfl) rfl #[.int .u16 26, .slice (some ⟨g, 0, none⟩) 4 4] hop (by simp [e0, show a'.eval (.const (.int .u16 26)) = .int .u16 26 from rfl]) ?_
  refine (opt6_option.calls 26 g 0 4 [tv, strOfNums [x.f0.f1 % 256], wh, st] os w' (cells_four hg) (blk_lt hg) (by show 4 ≤ 140737488355328; omega) (Nat.le_refl 4) hl hos).mono ?_
  rintro e w2 ⟨rfl, hb2⟩
  exact ⟨_, rfl, _, rfl, hb2, rfl⟩
 intro o a' w' ho hB hdf hsz' hr hd
 have cx := blk_below bx hB
 have hfill := XReg.fill_eq [49, 50, 51, 52, 53, 54, 55, 56, 57, 58, 59, 60, 61] hsz' hdf (XReg.rest_of (ops := opsOf Try.f43 13) (m := 13) (by kernel_rfl) hr)
 obtain ⟨hop, hdst⟩ := XReg.op_is (x := .call { callee := .value (.func 38), args := #[.tmp 4, .tmp 61], argTypes := #[78, 9] }) (d := some 62) ho (by kernel_rfl)
 have e0 := (hr 4 (by kernel_rfl)).trans h4
 have e1 : a'.eval (.tmp 61) = .string os := hd 12 61 (by kernel_rfl) (by omega)
 refine XReg.call_ (ro := none) Try.func38 (by kernel_rfl) rfl #[.pointer (some ⟨Bb, 0, none⟩), .string os] hop (by simp [e0, e1]) ?_
 refine (bld_write Bb Bb acc (os) w' (hIs.below hB) hz (Nat.le_trans hBb hB.size)).mono ?_
 rintro e w2 ⟨rfl, is2, hb2⟩
 refine ⟨_, rfl, ?_⟩
 rw [hdst, hfill]
 exact hK _ _ w2 is2 ((hB.mono hBb).trans hb2)
def putOne (k : Nat) (kind : Int) (x : S58) : Option ByteArray :=
  (octet_Put32.f k x.f1).bind fun p => (octet_Put32.f k x.f2).bind fun q => if (p ++ q).size ≤ 140737488355328 then (octet_PutAddr.f k x.f0.f0.f0 x.f0.f0.f1).bind fun wh => (opt6_status.f k x.f3).bind fun st =>
    if kind = 4 then (if (Lib.join ([p ++ q, strOfNums [x.f0.f1 % 256], wh, st].map (·.data.toList)) ([] : List UInt8)).length ≤ 140737488355328 then opt6_option.f 26 [p ++ q, strOfNums [x.f0.f1 % 256], wh, st] else none) else (if (Lib.join ([wh, p ++ q, st].map (·.data.toList)) ([] : List UInt8)).length ≤ 140737488355328 then opt6_option.f 5 [wh, p ++ q, st] else none) else none
def putEach (k : Nat) (kind : Int) : List S58 → ByteArray → Option ByteArray
  | [], acc => some acc
  | x :: l, acc => (putOne k kind x).bind fun s => if acc.size + s.size ≤ 140737488355328 then putEach k kind l (acc ++ s) else none
def putTail (k : Nat) (kind : Int) (l : List S58) (code : Int) (acc : ByteArray) : Option (Int × ByteArray × Int) :=
  (putEach k kind l acc).bind fun s => (opt6_status.f k code).bind fun st => if s.size + st.size ≤ 140737488355328 then (opt6_codeOf.f kind).bind fun c => some (c, s ++ st, 0) else none
def putK (k : Nat) (kind iaid t1 t2 : Int) (l : List S58) (code : Int) : Option (Int × ByteArray × Int) :=
  (soundK k kind iaid t1 t2 l code).bind fun ok => if ok = true then (octet_Put32.f k iaid).bind fun i => if i.size ≤ 140737488355328 then (if kind = 3 then putTail k kind l code ((⟨#[]⟩ : ByteArray) ++ i) else (octet_Put32.f k t1).bind fun p => (octet_Put32.f k t2).bind fun q => if (((⟨#[]⟩ : ByteArray) ++ i)).size + (p ++ q).size ≤ 140737488355328 then putTail k kind l code (((⟨#[]⟩ : ByteArray) ++ i) ++ (p ++ q)) else none) else none else some (0, (⟨#[]⟩ : ByteArray), 130)
theorem cells_three {w : World} {g : Nat} {a b c : ByteArray} (h : w.heap[g]? = some (.cells #[.string a, .string b, .string c] 9 (0, 0))) : ∀ (j : Nat) x, [a, b, c][j]? = some x → w.cell? ⟨g, 0 + j, none⟩ = some (.string x) := fun j x hx => by
 rw [Nat.zero_add]
 match j, hx with
 | 0, hx => obtain rfl := Option.some.inj hx; exact (blk_cell h 0).trans rfl
 | 1, hx => obtain rfl := Option.some.inj hx; exact (blk_cell h 1).trans rfl
 | 2, hx => obtain rfl := Option.some.inj hx; exact (blk_cell h 2).trans rfl
theorem blk_lower {w w' : World} {B g : Nat} {o : Obj} (h : w.heap[g]? = some o) (hb : Below B w w') (hg : g < B) : w'.heap[g]? = some o := (hb.block g hg).trans h
set_option maxHeartbeats 8000000 in
set_option maxRecDepth 100000 in
theorem putK_calls (k : Nat) (kind iaid t1 t2 : Int) (A4 : Option Addr) (c4 : Nat) (l4 : List S58) (code : Int) (r1 : Int) (r2 : ByteArray) (r3 : Int) (w : World) (hr : Kd.C k58 w A4 l4.length l4) (hc : l4.length ≤ c4) (h : putK k kind iaid t1 t2 l4 code = some (r1, r2, r3)) :
 Calls Try.prog 43 #[.agg #[.int .i64 kind, .int .u32 iaid, .int .u32 t1, .int .u32 t2, .slice A4 l4.length c4, .int .i64 code]] w fun e w' => e = .returned (.tuple #[.agg #[.int .u16 r1, .string r2], .int .i64 r3]) ∧ Below w.heap.size w w' := by
 unfold putK at h
 have HMX := ak_ (show l4.length ≤ 9223372036854775807 from Kd.C_max hr)
 have HR := ak_ hr
 have HC := ak_ hc
 have hu37 := Try.underlying51
 have hu40 := Try.underlying42
 have hu76 := Try.underlying58
 have hu74 := Try.underlying56
 have hu72 := Try.underlying54
 have hi37 : (Try.prog.info? 51).map (·.size) = some 6 := by kernel_rfl
 have hi40 : (Try.prog.info? 42).map (·.size) = some 2 := by kernel_rfl
 have hi76 : (Try.prog.info? 58).map (·.size) = some 6 := by kernel_rfl
 obtain ⟨ok, hok, h⟩ := Option.bind_eq_some_iff.1 h
 have HOK := ak_ hok
 have H := ak_ h
 clear hr hc hok h
 go_enter Try.func43, Try.ntmps43
 go_upto_region 1 with fail
 have BA0 := ak_ (blk_alloc (blk_new w (.cells #[.int .i64 kind, .int .u32 iaid, .int .u32 t1, .int .u32 t2, .slice A4 l4.length c4, .int .i64 code] 51)) (.cells #[.int .u16 0, .string (⟨#[]⟩ : ByteArray)] 42))
 have br := blk_new (w.alloc (.cells #[.int .i64 kind, .int .u32 iaid, .int .u32 t1, .int .u32 t2, .slice A4 l4.length c4, .int .i64 code] 51)) (.cells #[.int .u16 0, .string (⟨#[]⟩ : ByteArray)] 42)
 rw [World.size_alloc] at br
 have BR0 := ak_ br
 have HB0 := ak_ (below_alloc (below_alloc (Below.refl _ w) (.cells #[.int .i64 kind, .int .u32 iaid, .int .u32 t1, .int .u32 t2, .slice A4 l4.length c4, .int .i64 code] 51)) (.cells #[.int .u16 0, .string (⟨#[]⟩ : ByteArray)] 42))
 clear br
 generalize (w.alloc (.cells #[.int .i64 kind, .int .u32 iaid, .int .u32 t1, .int .u32 t2, .slice A4 l4.length c4, .int .i64 code] 51)).alloc (.cells #[.int .u16 0, .string (⟨#[]⟩ : ByteArray)] 42) = w2 at BA0 BR0 HB0 ⊢
 obtain ⟨ga, hga⟩ : ∃ ga, ga = w.heap.size := ⟨_, rfl⟩
 obtain ⟨gr, hgr⟩ : ∃ gr, gr = w.heap.size + 1 := ⟨_, rfl⟩
 have GA := ak_ (show w.heap.size ≤ ga by omega)
 have GR := ak_ (show w.heap.size ≤ gr by omega)
 have GAR := ak_ (show ga ≠ gr by omega)
 have BA1 := ak_ (show w2.heap[ga]? = some (.cells #[.int .i64 kind, .int .u32 iaid, .int .u32 t1, .int .u32 t2, .slice A4 l4.length c4, .int .i64 code] 51 (0, 0)) by rw [hga]; exact BA0.out)
 have BR1 := ak_ (show w2.heap[gr]? = some (.cells #[.int .u16 0, .string (⟨#[]⟩ : ByteArray)] 42 (0, 0)) by rw [hgr]; exact BR0.out)
 rw [← hgr, ← hga]
 clear hga hgr BA0 BR0
 cases ok with
 | false =>
  have h := H.out
  rw [if_neg (by decide)] at h
  simp only [Option.some.injEq, Prod.mk.injEq] at h
  obtain ⟨rfl, rfl, rfl⟩ := h
  clear H
  go_wp2_with (first
   | ((with_reducible refine gate_dst (N := 9) rfl ?_); refine XBox.loadL_ 9 rfl rfl 51 rfl ga rfl _ BA1.out hu37 rfl hi37 ?_; simp only [Act.put, List.setIfInBounds_toArray, List.set_cons_zero, List.set_cons_succ])
   | (go_at_call 64; refine (soundK_calls k kind iaid t1 t2 A4 c4 l4 code false _ (Kd.C_below HR.out HB0.out) HC.out HOK.out).mono ?_; rintro e w3 ⟨rfl, hb⟩; have BR3 := ak_ (blk_below BR1.out hb); have HB3 := ak_ (below_step HB0.out hb); clear hb)
   | ((with_reducible refine gate_store (p := 2) rfl ?_); refine XBox.storeL_ rfl rfl 42 rfl gr rfl #[.int .u16 0, .string (⟨#[]⟩ : ByteArray)] #[.int .u16 0, .string (⟨#[]⟩ : ByteArray)] rfl BR3.out hi40 (Eq.refl 2) (by simp [Value.oneCell']) ?_; intro wv hw1 hw2 hw3; have BV := ak_ hw1; have HV := ak_ (HB3.out.trans (hw2 _ GR.out)); clear hw1 hw2 hw3))
  refine bodyPost_ret (results_ct rfl _ _ gr 42 #[.int .u16 0, .string (⟨#[]⟩ : ByteArray)] (0, 0) _ rfl BV.out hu40 rfl hi40) rfl ?_
  exact ⟨rfl, HV.out⟩
 | true =>
 have h := H.out
 rw [if_pos rfl] at h
 obtain ⟨i, hi, h⟩ := Option.bind_eq_some_iff.1 h
 by_cases hiz : i.size ≤ 140737488355328
 case neg => rw [if_neg hiz] at h; cases h
 rw [if_pos hiz] at h
 have HI := ak_ hi
 have HIZ := ak_ (show (⟨#[]⟩ : ByteArray).size + i.size ≤ 140737488355328 from by rw [show (⟨#[]⟩ : ByteArray).size = 0 from rfl]; omega)
 clear H hi hiz
 have H := ak_ h
 clear h
 go_upto_region 4 with (first
  | ((with_reducible refine gate_dst (N := 9) rfl ?_); refine XBox.loadL_ 9 rfl rfl 51 rfl ga rfl _ BA1.out hu37 rfl hi37 ?_; simp only [Act.put, List.setIfInBounds_toArray, List.set_cons_zero, List.set_cons_succ])
  | (go_at_call 64; refine (soundK_calls k kind iaid t1 t2 A4 c4 l4 code true _ (Kd.C_below HR.out HB0.out) HC.out HOK.out).mono ?_; rintro e w3 ⟨rfl, hb⟩; have BA3 := ak_ (blk_below BA1.out hb); have BR3 := ak_ (blk_below BR1.out hb); have HB3 := ak_ (below_step HB0.out hb); clear hb))
 have IS0 := ak_ (Bld.Is.new 78 5 w3)
 have HBn := ak_ (below_alloc HB3.out (.cells #[.pointer none, .slice none 0 0] 78))
 have BAn := ak_ (blk_alloc BA3.out (.cells #[.pointer none, .slice none 0 0] 78))
 have BRn := ak_ (blk_alloc BR3.out (.cells #[.pointer none, .slice none 0 0] 78))
 obtain ⟨gb, hgb⟩ : ∃ gb, gb = w3.heap.size := ⟨_, rfl⟩
 have GAB := ak_ (show ga < gb by rw [hgb]; exact blk_lt BA3.out)
 have GRB := ak_ (show gr < gb by rw [hgb]; exact blk_lt BR3.out)
 have GB := ak_ (show w.heap.size ≤ gb by have := GA.out; have := GAB.out; omega)
 have SZ := ak_ (show gb ≤ (w3.alloc (.cells #[.pointer none, .slice none 0 0] 78)).heap.size by rw [World.size_alloc]; omega)
 rw [← hgb]
 rw [← hgb] at IS0
 clear hgb
 generalize w3.alloc (.cells #[.pointer none, .slice none 0 0] 78) = w4 at IS0 HBn BAn BRn SZ ⊢
 have d1_ := (blk_cell BAn.out 1).trans rfl
 go_upto_region 5 with (first
  | (go_at_call 23; refine (octet_Put32.calls k iaid i _ HI.out).mono ?_; rintro e w5 ⟨rfl, hb⟩; have HB5 := ak_ (below_step HBn.out hb); have BA5 := ak_ (blk_below BAn.out hb); have BR5 := ak_ (blk_below BRn.out hb); have IS5 := ak_ (IS0.out.below hb); have SZ5 := ak_ (Nat.le_trans SZ.out hb.size); clear hb)
  | (go_at_call 38; (with_reducible refine (bld_write gb gb (⟨#[]⟩ : ByteArray) i _ IS5.out HIZ.out SZ5.out).mono ?_); rintro e w6 ⟨rfl, is6, hb⟩; have IS6 := ak_ is6; have HB6 := ak_ (HB5.out.trans (hb.mono GB.out)); have BA6 := ak_ (blk_lower BA5.out hb GAB.out); have BR6 := ak_ (blk_lower BR5.out hb GRB.out); have SZ6 := ak_ (Nat.le_trans SZ5.out hb.size); clear is6 hb))
 clear IS0 HBn BAn BRn SZ d1_ HB5 BA5 BR5 IS5 SZ5 BA3 BR3 HB3 BA1 BR1
 generalize (⟨#[]⟩ : ByteArray) ++ i = acc0 at IS6 H
 have d0_ := (blk_cell BA6.out 0).trans rfl
 go_upto_if 19 with fail
 go_cut [6] (fun s6 wc => ∃ acc : ByteArray, Aside0 (putTail k kind l4 code acc = some (r1, r2, r3)) ∧ Aside0 (Bld.Is 78 5 gb gb acc wc) ∧ Aside0 (Below w.heap.size w wc) ∧ Aside0 (wc.heap[ga]? = some (.cells #[.int .i64 kind, .int .u32 iaid, .int .u32 t1, .int .u32 t2, .slice A4 l4.length c4, .int .i64 code] 51 (0, 0))) ∧ Aside0 (wc.heap[gr]? = some (.cells #[.int .u16 0, .string (⟨#[]⟩ : ByteArray)] 42 (0, 0))) ∧ Aside0 (gb ≤ wc.heap.size))
 case first =>
  by_cases h3 : kind = 3
  ·have hx := H.out
   rw [if_pos h3] at hx
   have HX := ak_ hx
   clear hx
   subst h3
   go_wp2
   go_meet
   case rel => exact ⟨acc0, HX, IS6, HB6, BA6, BR6, SZ6⟩
  ·have h := H.out
   rw [if_neg h3] at h
   have hb3 : (kind != 3) = true := by simpa using h3
   obtain ⟨p, hp, h⟩ := Option.bind_eq_some_iff.1 h
   obtain ⟨q, hq, h⟩ := Option.bind_eq_some_iff.1 h
   by_cases hz : acc0.size + (p ++ q).size ≤ 140737488355328
   case neg => rw [if_neg hz] at h; cases h
   rw [if_pos hz] at h
   go_upto_region 6 with fail
   refine putTimes _ rfl _ _ _ _ (by kernel_rfl) k ga gb kind iaid t1 t2 _ code acc0 p q rfl rfl BA6.out IS6.out SZ6.out hp hq hz ?_
   intro u v W hIs hb
   have BAW := ak_ (blk_lower BA6.out hb GAB.out)
   have BRW := ak_ (blk_lower BR6.out hb GRB.out)
   simp only [XReg.fills, List.foldl_cons, List.foldl_nil, Act.put, List.setIfInBounds_toArray, List.set_cons_zero, List.set_cons_succ]
   go_wp2
   go_meet
   case rel => exact ⟨_, ⟨h⟩, ⟨hIs⟩, ⟨HB6.out.trans (hb.mono GB.out)⟩, BAW, BRW, ⟨Nat.le_trans SZ6.out hb.size⟩⟩
 case rest =>
  clear H IS6 HB6 BA6 BR6 SZ6 d0_ acc0
  obtain ⟨acc, H, IS, HB, BA, BR, SZ⟩ := hcut
  have h := H.out
  unfold putTail at h
  obtain ⟨s, hs, h⟩ := Option.bind_eq_some_iff.1 h
  obtain ⟨st, hst, h⟩ := Option.bind_eq_some_iff.1 h
  by_cases hz : s.size + st.size ≤ 140737488355328
  case neg => rw [if_neg hz] at h; cases h
  rw [if_pos hz] at h
  obtain ⟨c, hcc, h⟩ := Option.bind_eq_some_iff.1 h
  simp only [Option.some.injEq, Prod.mk.injEq] at h
  obtain ⟨rfl, rfl, rfl⟩ := h
  have HS := ak_ hs
  have HST := ak_ hst
  have HZ := ak_ hz
  have HCC := ak_ hcc
  clear H hs hst hz hcc
  have d4_ := (blk_cell BA.out 4).trans rfl
  go_upto_region 8 with fail
  go_loopg [6, 7, 8, 31] l4.length (fun gg _ _ _ s31 wr => ∃ (kk : Nat) (ac : ByteArray), Aside0 (kk ≤ l4.length ∧ l4.length - kk ≤ gg) ∧ s31 = .int .i64 kk ∧ Aside0 (putEach k kind (l4.drop kk) ac = some s) ∧ Aside0 (Bld.Is 78 5 gb gb ac wr) ∧ Aside0 (Below w.heap.size w wr) ∧ Aside0 (wr.heap[ga]? = some (.cells #[.int .i64 kind, .int .u32 iaid, .int .u32 t1, .int .u32 t2, .slice A4 l4.length c4, .int .i64 code] 51 (0, 0))) ∧ Aside0 (wr.heap[gr]? = some (.cells #[.int .u16 0, .string (⟨#[]⟩ : ByteArray)] 42 (0, 0))) ∧ Aside0 (gb ≤ wr.heap.size))
  case atStart => exact ⟨0, acc, ⟨Nat.zero_le _, Nat.le_refl _⟩, rfl, by rw [List.drop_zero]; exact HS, IS, HB, BA, BR, SZ⟩
  case round =>
   clear HS IS HB BA BR SZ d4_
   obtain ⟨kk, ac, HK, rfl, HP, IS, HB, BA, BR, SZ⟩ := hrel
   by_cases hlt : kk < l4.length
   ·obtain ⟨ad, hA, hx0, hx1, hx2, hx3, hx4, hx5⟩ := at_T58 (Kd.C_below HR.out HB.out) (kk : Int) (by omega) (by omega)
    subst hA
    simp only [Int.toNat_natCast] at hx0 hx1 hx2 hx3 hx4 hx5
    have hp := HP.out
    have hd : l4.drop kk = (rd_T58 l4 (kk : Int)) :: l4.drop (kk + 1) := by
     rw [List.drop_eq_getElem_cons hlt]
     simp [rd_T58, List.getD_eq_getElem?_getD, List.getElem?_eq_getElem hlt]
    rw [hd, putEach] at hp
    obtain ⟨x, hx⟩ : ∃ x, x = rd_T58 l4 (kk : Int) := ⟨_, rfl⟩
    rw [← hx] at hp hx0 hx1 hx2 hx3 hx4 hx5
    clear hd hx HP
    obtain ⟨so, ho, hp⟩ := Option.bind_eq_some_iff.1 hp
    by_cases hz : ac.size + so.size ≤ 140737488355328
    case neg => rw [if_neg hz] at hp; cases hp
    rw [if_pos hz] at hp
    unfold putOne at ho
    obtain ⟨p, hp1, ho⟩ := Option.bind_eq_some_iff.1 ho
    obtain ⟨q, hq1, ho⟩ := Option.bind_eq_some_iff.1 ho
    by_cases hz2 : (p ++ q).size ≤ 140737488355328
    case neg => rw [if_neg hz2] at ho; cases ho
    rw [if_pos hz2] at ho
    obtain ⟨wh, hwh, ho⟩ := Option.bind_eq_some_iff.1 ho
    obtain ⟨st2, hst2, ho⟩ := Option.bind_eq_some_iff.1 ho
    have HP := ak_ hp
    have HZO := ak_ hz
    have HP1 := ak_ hp1
    have HQ1 := ak_ hq1
    have HZ2 := ak_ hz2
    have HWH := ak_ hwh
    have HST2 := ak_ hst2
    have HO := ak_ ho
    have HLT := ak_ hlt
    have hltz : (kk : Int) < (l4.length : Int) := by omega
    clear hp hz hp1 hq1 hz2 hwh hst2 ho hlt
    go_upto_region 10 with (first
     | ((with_reducible refine gate_dst (N := 6) rfl ?_); refine box_event ?hg (N := 6) ?hd (cs := #[.int .u64 0, .int .u64 0, .int .i64 0, .int .u32 0, .int .u32 0, .int .i64 0]) (t := 58) ?hr ?_; (case hd => rfl); (case hg => rfl); (case hr => go_simp; done); intro gx hgx w8 hbox hb8; have BKz := ak_ hbox; have HB8 := ak_ hb8; have GE := ak_ (Nat.le_of_eq hgx.symm); clear hgx hbox hb8)
     | ((with_reducible refine gate_store (p := 6) rfl ?_); refine XBox.storeL_ rfl rfl 58 rfl gx rfl #[.int .u64 0, .int .u64 0, .int .i64 0, .int .u32 0, .int .u32 0, .int .i64 0] #[.int .u64 x.f0.f0.f0, .int .u64 x.f0.f0.f1, .int .i64 x.f0.f1, .int .u32 x.f1, .int .u32 x.f2, .int .i64 x.f3] rfl BKz.out hi76 (Eq.refl 6) (by simp [Value.oneCell']) ?_; intro wb hw1 hw2 hw3; have BX0 := ak_ hw1; have HBW := ak_ (HB8.out.trans (hw2 _ GE.out)); clear hw1 hw2 hw3))
    have IS0 := ak_ (IS.out.below HBW.out)
    have BA0 := ak_ (blk_below BA.out HBW.out)
    have BR0 := ak_ (blk_below BR.out HBW.out)
    have HB0 := ak_ (below_step HB.out HBW.out)
    have SZ0 := ak_ (Nat.le_trans SZ.out HBW.out.size)
    clear IS BA BR HB SZ HBW HB8 BKz GE hx0 hx1 hx2 hx3 hx4 hx5
    refine putPref _ rfl _ _ _ _ (by kernel_rfl) k gx x p q rfl BX0.out HP1.out HQ1.out HZ2.out ?_
    intro u W hb
    have IS := ak_ (IS0.out.below hb)
    have BA := ak_ (blk_below BA0.out hb)
    have BR := ak_ (blk_below BR0.out hb)
    have HB := ak_ (below_step HB0.out hb)
    have SZ := ak_ (Nat.le_trans SZ0.out hb.size)
    have BX := ak_ (blk_below BX0.out hb)
    clear hb IS0 BA0 BR0 HB0 SZ0 BX0
    simp only [XReg.fills, List.foldl_cons, List.foldl_nil, Act.put, List.setIfInBounds_toArray, List.set_cons_zero, List.set_cons_succ]
    have x0_ := (blk_cell BX.out 0).trans rfl
    have x1_ := (blk_cell BX.out 1).trans rfl
    have d0_ := (blk_cell BA.out 0).trans rfl
    by_cases h4 : kind = 4
    ·subst h4
     have ho := HO.out
     rw [if_pos rfl] at ho
     by_cases hj : (Lib.join ([p ++ q, strOfNums [x.f0.f1 % 256], wh, st2].map (·.data.toList)) ([] : List UInt8)).length ≤ 140737488355328
     case neg => rw [if_neg hj] at ho; cases ho
     rw [if_pos hj] at ho
     have HO4 := ak_ ho
     have HJ := ak_ hj
     clear HO ho hj
     go_upto_region 13 with (go_at_call 65; refine (octet_PutAddr.calls k _ _ wh _ HWH.out).mono ?_; rintro e w9 ⟨rfl, hb⟩; have IS9 := ak_ (IS.out.below hb); have BA9 := ak_ (blk_below BA.out hb); have BR9 := ak_ (blk_below BR.out hb); have HB9 := ak_ (below_step HB.out hb); have SZ9 := ak_ (Nat.le_trans SZ.out hb.size); have BX9 := ak_ (blk_below BX.out hb); have e0_ := (blk_cell BA9.out 0).trans rfl; clear hb)
     refine putDeleg _ rfl _ _ _ _ (by kernel_rfl) k gx gb x ac (p ++ q) wh st2 so rfl rfl rfl rfl BX9.out IS9.out SZ9.out HST2.out HO4.out HJ.out HZO.out ?_
     intro u2 v2 W2 hIs hb
     have IS2 := ak_ hIs
     have BA2 := ak_ (blk_lower BA9.out hb GAB.out)
     have BR2 := ak_ (blk_lower BR9.out hb GRB.out)
     have HB2 := ak_ (HB9.out.trans (hb.mono GB.out))
     have SZ2 := ak_ (Nat.le_trans SZ9.out hb.size)
     clear hIs hb IS9 BA9 BR9 HB9 SZ9 BX9 IS BA BR HB SZ BX x0_ x1_ d0_
     simp only [XReg.fills, List.foldl_cons, List.foldl_nil, Act.put, List.setIfInBounds_toArray, List.set_cons_zero, List.set_cons_succ]
     go_wp2
     go_roundg (l4.length - (kk + 1))
     case measure => have := HK.out; have := HLT.out; omega
     case rel => exact ⟨kk + 1, _, ⟨by have := HLT.out; omega, Nat.le_refl _⟩, by rw [Go.IntWalk.wrap64_in _ (by have := HLT.out; have := HMX.out; omega)]; rfl, HP, IS2, HB2, BA2, BR2, SZ2⟩
    ·have ho := HO.out
     rw [if_neg h4] at ho
     by_cases hj : (Lib.join ([wh, p ++ q, st2].map (·.data.toList)) ([] : List UInt8)).length ≤ 140737488355328
     case neg => rw [if_neg hj] at ho; cases ho
     rw [if_pos hj] at ho
     have HO4 := ak_ ho
     have HJ := ak_ hj
     have hb4 : (kind == 4) = false := by simpa using h4
     have x5_ := (blk_cell BX.out 5).trans rfl
     clear HO ho hj h4
     go_wp2_with (first
      | (go_at_call 65; refine (octet_PutAddr.calls k _ _ wh _ HWH.out).mono ?_; rintro e w9 ⟨rfl, hb⟩; have IS9 := ak_ (IS.out.below hb); have BA9 := ak_ (blk_below BA.out hb); have BR9 := ak_ (blk_below BR.out hb); have HB9 := ak_ (below_step HB.out hb); have SZ9 := ak_ (Nat.le_trans SZ.out hb.size); have BX9 := ak_ (blk_below BX.out hb); have e0_ := (blk_cell BA9.out 0).trans rfl; have y5_ := (blk_cell BX9.out 5).trans rfl; clear hb)
      | (go_at_call 67; refine (opt6_status.calls k _ st2 _ HST2.out).mono ?_; rintro e w10 ⟨rfl, hb⟩; have IS10 := ak_ (IS9.out.below hb); have BA10 := ak_ (blk_below BA9.out hb); have BR10 := ak_ (blk_below BR9.out hb); have HB10 := ak_ (below_step HB9.out hb); have SZ10 := ak_ (Nat.le_trans SZ9.out hb.size); clear hb)
      | (go_at_call 66; refine (opt6_option.calls 5 w10.heap.size 0 3 [wh, p ++ q, st2] so _ (cells_three (blk_new w10 _)) (by simp) (by show 3 ≤ 140737488355328; omega) (Nat.le_refl 3) HJ.out HO4.out).mono ?_; rintro e w11 ⟨rfl, hb⟩; have IS11 := ak_ ((IS10.out.alloc _).below hb); have BA11 := ak_ (blk_below (blk_alloc BA10.out _) hb); have BR11 := ak_ (blk_below (blk_alloc BR10.out _) hb); have HB11 := ak_ (below_step (below_alloc HB10.out _) hb); have SZ11 := ak_ (Nat.le_trans SZ10.out (Nat.le_trans (Nat.le_succ _) (Nat.le_trans (Nat.le_of_eq (World.size_alloc _ _).symm) hb.size))); clear hb)
      | (go_at_call 38; (with_reducible refine (bld_write gb gb ac so _ IS11.out HZO.out SZ11.out).mono ?_); rintro e W2 ⟨rfl, hIs, hb⟩; have IS2 := ak_ hIs; have BA2 := ak_ (blk_lower BA11.out hb GAB.out); have BR2 := ak_ (blk_lower BR11.out hb GRB.out); have HB2 := ak_ (HB11.out.trans (hb.mono GB.out)); have SZ2 := ak_ (Nat.le_trans SZ11.out hb.size); clear hIs hb))
     go_roundg (l4.length - (kk + 1))
     case measure => have := HK.out; have := HLT.out; omega
     case rel => exact ⟨kk + 1, _, ⟨by have := HLT.out; omega, Nat.le_refl _⟩, by rw [Go.IntWalk.wrap64_in _ (by have := HLT.out; have := HMX.out; omega)]; rfl, HP, IS2, HB2, BA2, BR2, SZ2⟩
   ·obtain rfl : kk = l4.length := by have := HK.out; omega
    have hp := HP.out
    rw [List.drop_length, putEach] at hp
    obtain rfl := Option.some.inj hp
    clear hp HP
    have d5_ := (blk_cell BA.out 5).trans rfl
    have hltz : ¬ (l4.length : Int) < (l4.length : Int) := by omega
    go_wp2_with (first
     | (go_at_call 67; refine (opt6_status.calls k _ st _ HST.out).mono ?_; rintro e w10 ⟨rfl, hb⟩; have IS10 := ak_ (IS.out.below hb); have BA10 := ak_ (blk_below BA.out hb); have BR10 := ak_ (blk_below BR.out hb); have HB10 := ak_ (below_step HB.out hb); have SZ10 := ak_ (Nat.le_trans SZ.out hb.size); clear hb)
     | (go_at_call 38; (with_reducible refine (bld_write gb gb ac st _ IS10.out HZ.out SZ10.out).mono ?_); rintro e W2 ⟨rfl, hIs, hb⟩; have IS2 := ak_ hIs; have BA2 := ak_ (blk_lower BA10.out hb GAB.out); have BR2 := ak_ (blk_lower BR10.out hb GRB.out); have HB2 := ak_ (HB10.out.trans (hb.mono GB.out)); have SZ2 := ak_ (Nat.le_trans SZ10.out hb.size); have f0_ := (blk_cell BA2.out 0).trans rfl; clear hIs hb)
     | (go_at_call 68; refine (opt6_codeOf.calls kind c _ HCC.out).mono ?_; rintro e W3 ⟨rfl, hd⟩; have IS3 := ak_ (IS2.out.below hd.below); have BR3 := ak_ (blk_below BR2.out hd.below); have HB3 := ak_ (below_step HB2.out hd.below); have SZ3 := ak_ (Nat.le_trans SZ2.out hd.below.size); clear hd)
     | (go_at_call 40; refine (bld_string gb gb (ac ++ st) W3 IS3.out SZ3.out).mono ?_; rintro e W4 ⟨rfl, hb⟩; have BR4 := ak_ (blk_lower BR3.out hb GRB.out); have HB4 := ak_ (HB3.out.trans (hb.mono GB.out)); clear hb)
     | ((with_reducible refine gate_store (p := 2) rfl ?_); refine XBox.storeL_ rfl rfl 42 rfl gr rfl #[.int .u16 0, .string (⟨#[]⟩ : ByteArray)] #[.int .u16 c, .string (ac ++ st)] rfl BR4.out hi40 (Eq.refl 2) (by simp [Value.oneCell']) ?_; intro wv hw1 hw2 hw3; have BV := ak_ hw1; have HV := ak_ (HB4.out.trans (hw2 _ GR.out)); clear hw1 hw2 hw3))
    refine bodyPost_ret (results_ct rfl _ _ gr 42 #[.int .u16 c, .string (ac ++ st)] (0, 0) _ rfl BV.out hu40 rfl hi40) rfl ?_
    exact ⟨rfl, HV.out⟩
def opt6_PutIA.f (a0 a1 a2 a3 : Int) (a4 : List S58) (a5 : Int) : Option (Int × ByteArray × Int) := putK 1000 a0 a1 a2 a3 a4 a5
theorem opt6_PutIA.calls (a0_0 a0_1 a0_2 a0_3 : Int) (A0_4 : Option Addr) (c0_4 : Nat) (l0_4 : List S58) (a0_5 : Int) (r1 : Int) (r2 : ByteArray) (r3 : Int) (w : World) (hr0_4 : Kd.C k58 w A0_4 l0_4.length l0_4) (hc0_4 : l0_4.length ≤ c0_4) (h : opt6_PutIA.f a0_0 a0_1 a0_2 a0_3 l0_4 a0_5 = some (r1, r2, r3)) :
 Calls Try.prog 43 #[.agg #[.int .i64 a0_0, .int .u32 a0_1, .int .u32 a0_2, .int .u32 a0_3, .slice A0_4 l0_4.length c0_4, .int .i64 a0_5]] w fun e w' => e = .returned (.tuple #[.agg #[.int .u16 r1, .string r2], .int .i64 r3]) ∧ Below w.heap.size w w' :=
 putK_calls 1000 a0_0 a0_1 a0_2 a0_3 A0_4 c0_4 l0_4 a0_5 r1 r2 r3 w hr0_4 hc0_4 h

/-- The list variable: its cell, the row that it holds; what else is there. -/
structure OL (w0 : World) (gl : Nat) (l : List S42) (W : World) : Prop where
  ex : ∃ v, W.heap[gl]? = some (.cells #[v] 24 (0, 0)) ∧ Kd.R k42 42 W w0.heap.size (fun _ => True) v l
  bel : Below w0.heap.size w0 W
  low : w0.heap.size ≤ gl
theorem OL.below {w0 W W' : World} {gl : Nat} {l : List S42} (h : OL w0 gl l W) (hb : Below W.heap.size W W') : OL w0 gl l W' := by
 obtain ⟨⟨v, h1, h2⟩, h3, h4⟩ := h
 exact ⟨⟨v, blk_below h1 hb, Kd.R_below h2 hb⟩, below_step h3 hb, h4⟩
/-- Blocks of other types are kept. -/
def Oth (W W' : World) : Prop := ∀ (g : Nat) (t : TypeId) (cs : Array Value), W.heap[g]? = some (.cells cs t (0, 0)) → t ≠ 24 → t ≠ 42 → W'.heap[g]? = some (.cells cs t (0, 0))
theorem OL.put {w0 W w1 : World} {gl : Nat} {v v1 : Value} {l : List S42} {p : S42} (hb : W.heap[gl]? = some (.cells #[v] 24 (0, 0))) (hr : Kd.R k42 42 W w0.heap.size (fun _ => True) v l) (hbel : Below w0.heap.size w0 W) (hlow : w0.heap.size ≤ gl)
 (ho : Kd.R k42 42 w1 w0.heap.size (fun _ => True) v1 (l ++ [p])) (hb1 : Below w0.heap.size W w1) (hg : W.grownBy w1 v.ownBlock) : OL w0 gl (l ++ [p]) (w1.setCell ⟨gl, 0, none⟩ v1) ∧ Oth W (w1.setCell ⟨gl, 0, none⟩ v1) := by
 have hk1 := blk_grown hb hg (Kd.R_ne hr hb (by decide))
 refine ⟨⟨⟨_, blk_put hk1 0 _ rfl, Kd.R_set ho hk1 (by decide) 0 _⟩, (hbel.trans hb1).setCell hlow _, hlow⟩, fun g t cs h h1 h2 => ?_⟩
 have hg1 := blk_grown h hg (Kd.R_ne hr h (Ne.symm h2))
 rw [← hg1]
 exact Below.heap_setCell _ _ _ _ (fun e => h1 (by
  have h3 := hb
  rw [show gl = g from e.symm, h] at h3
  injection h3 with h3
  injection h3 with _ h3))
set_option maxHeartbeats 4000000 in
set_option maxRecDepth 100000 in
theorem optAdd_calls (is : Bool) (code : Int) (data : ByteArray) (w0 : World) (gl : Nat) (l : List S42) (W : World) (h : OL w0 gl l W) (hl : l.length < 5864062014804) :
 Calls Try.prog 41 #[.bool is, .int .u16 code, .string data, .pointer (some ⟨gl, 0, none⟩)] W fun e W' => e = .returned (.tuple #[]) ∧ OL w0 gl (if is = true then l ++ [⟨code, data⟩] else l) W' ∧ Oth W W' := by
 obtain ⟨⟨v, hb, hr⟩, hbel, hlow⟩ := h
 have BK := ak_ hb
 have HR := ak_ hr
 have HB := ak_ hbel
 have LO := ak_ hlow
 have HL := ak_ hl
 have hc0 : W.cell? ⟨gl, 0, none⟩ = some v := (blk_cell hb 0).trans rfl
 obtain ⟨Av, cv, rfl⟩ := Kd.R_slice hr
 have hu24 := Try.underlying24
 have hu42 := Try.underlying42
 clear hb hr hbel hlow hl
 go_enter Try.func41, Try.ntmps41
 cases is with
 | false =>
  go_wp2
  go_end0
  exact ⟨rfl, ⟨⟨_, BK.out, HR.out⟩, HB.out, LO.out⟩, fun g t cs h _ _ => h⟩
 | true =>
  go_wp2_with ((with_reducible refine gate_builtin (b := .append) (xs := #[.tmp 8, .tmp 12]) rfl ?_); at_builtin; refine Kd.R_append k42 (w0 := W) w0.heap.size rfl (.tmp 8) (.tmp 12) 24 42 (.agg #[(.int .u16 0), (.string ⟨#[]⟩)]) 24 rfl Try.underlying24 info42 rfl (by decide) (by omega) (.slice Av l.length cv) l (⟨code, data⟩ : S42) [.int .u16 code, .string data] (fun _ => True) (fun _ => False) rfl rfl ?aP (fun _ hk => hk.elim) (fun _ _ => trivial) HR.out (Below.refl _ _) HB.out.size ?aL ?_; (case aP => exact k42_mkM _ _ _ (⟨code, data⟩ : S42)); (case aL => have := HL.out; omega); intro v1 w1 ho hb1 hg hat; have BK1 := ak_ (blk_grown BK.out hg (Kd.R_ne HR.out BK.out (by decide))); have HR1 := ak_ ho; have HB1 := ak_ (HB.out.trans hb1); have HG1 := ak_ hg; have hc1 : w1.cell? ⟨gl, 0, none⟩ = some (.slice Av l.length cv) := (blk_cell BK1.out 0).trans rfl; have hf1 := blk_frozen BK1.out 0; obtain ⟨A1, c1, rfl⟩ := Kd.R_slice ho; clear ho hb1 hg hat)
  go_end0
  have hr9 := HR1.out
  rw [List.length_append] at hr9
  refine ⟨rfl, ⟨⟨_, blk_put BK1.out 0 _ rfl, Kd.R_set hr9 BK1.out (by decide) 0 _⟩, HB1.out.setCell LO.out _, LO.out⟩, fun g t cs h h1 h2 => ?_⟩
  have hg1 := blk_grown h HG1.out (Kd.R_ne HR.out h (Ne.symm h2))
  rw [← hg1]
  exact Below.heap_setCell _ _ _ _ (fun e => h1 (by
   have h3 := BK.out
   rw [show gl = g from e.symm, h] at h3
   injection h3 with h3
   injection h3 with _ h3))
def w6add (is : Bool) (code : Int) (data : ByteArray) (l : List S42) : List S42 := if is = true then l ++ [⟨code, data⟩] else l
def w6reg5V (gb gl : Nat) (a5 : Int) (st : ByteArray) : Nat → Value → World → Prop
  | 0, v, _ => v = .func (.func 41) #[] #[.pointer (some ⟨gl, 0, none⟩)]
  | 1, v, _ => v = .pointer (some ⟨gb, 5, none⟩)
  | 2, v, _ => v = .int .i64 a5
  | 3, v, _ => v = .bool (a5 != -1)
  | 4, v, _ => v = .pointer (some ⟨gb, 5, none⟩)
  | 5, v, _ => v = .int .i64 a5
  | 6, v, _ => v = .string st
  | _, _, _ => True
set_option maxHeartbeats 4000000 in
set_option maxRecDepth 100000 in
theorem w6reg5 (ops : Array Oper) (hops : ops = opsOf Try.f22 5) (id : Nat) (Q : Exit → Act → World → Prop) (act : Act) (w : World) (hsz0 : act.tmps.size = 75) (gb gl : Nat) (st : ByteArray) (w0 : World) (l : List S42) (a0 a1 : Int) (a2 a3 : ByteArray) (A4 : Option Addr) (n4 c4 : Nat) (a5 : Int) (a6 a7 : Bool) (a8 : Int) (A9 : Option Addr) (n9 c9 : Nat)
 (h5 : act.eval (.tmp 5) = .func (.func 41) #[] #[.pointer (some ⟨gl, 0, none⟩)]) (h1 : act.eval (.tmp 1) = .pointer (some ⟨gb, 0, none⟩)) (bx : w.heap[gb]? = some (.cells #[.int .i64 a0, .int .u32 a1, .string a2, .string a3, .slice A4 n4 c4, .int .i64 a5, .bool a6, .bool a7, .int .i64 a8, .slice A9 n9 c9] 26 (0, 0))) (ol : OL w0 gl l w) (hl : l.length < 5864062014804) (hst : opt6_PutStatus.f 1000 a5 = some st)
 (hK : ∀ (u : Tmp → Value) (W : World), OL w0 gl (w6add (a5 != -1) 13 st l) W → W.heap[gb]? = some (.cells #[.int .i64 a0, .int .u32 a1, .string a2, .string a3, .slice A4 n4 c4, .int .i64 a5, .bool a6, .bool a7, .int .i64 a8, .slice A9 n9 c9] 26 (0, 0)) → Q .normal ((XReg.fills u [25, 26, 27, 28, 29, 30, 31] act).put (some 32) (.tuple #[])) W) :
 (Code.region id ops true).wp Try.prog Q act w := by
 subst hops
 refine (wpIn_wide (n := 9)).1 (XReg.region_runD (by kernel_rfl) 7 (by rw [hsz0]; kernel_rfl) (w6reg5V gb gl a5 st)
  (fun w' => Below w.heap.size w w') ?_ (fun w1 w2 h1 h2 => below_step h1 h2) ((Below.refl _ w).drew) ?_ ?_)
 ·intro i v w1 w2 hv hb
  match i, hv with
  | 0, hv | 1, hv | 2, hv | 3, hv | 4, hv | 5, hv | 6, hv => exact hv
  | _ + 7, _ => trivial
 ·intro i o a' w' hi ho hB hdf hr hd
  have qx := blk_below bx hB
  have qo := ol.below hB
  have hcases : i = 0 ∨ i = 1 ∨ i = 2 ∨ i = 3 ∨ i = 4 ∨ i = 5 ∨ i = 6 := by omega
  rcases hcases with rfl | rfl | rfl | rfl | rfl | rfl | rfl
  ·obtain ⟨hop, hdst⟩ := XReg.op_is (x := .move (.tmp 5)) (d := some 25) ho (by kernel_rfl)
   have e0 := (hr 5 (by kernel_rfl)).trans h5
   refine XReg.val_ (v := .func (.func 41) #[] #[.pointer (some ⟨gl, 0, none⟩)]) (w1 := w') (by rw [hop]; intro c h; cases h) (by simp [Oper.about, hop]) ?_ ⟨_, rfl, Below.refl _ _, rfl⟩
   unfold execOp
   rw [hop]
   clear hr hd hB
   clear qx qo bx ol
   generalize a'.eval = ρ at e0 ⊢
   go_simp
  ·obtain ⟨hop, hdst⟩ := XReg.op_is (x := .fieldAddr 26 (.tmp 1) 5) (d := some 26) ho (by kernel_rfl)
   have e0 := (hr 1 (by kernel_rfl)).trans h1
   have hu0 := Try.underlying26
   refine XReg.val_ (v := .pointer (some ⟨gb, 5, none⟩)) (w1 := w') (by rw [hop]; intro c h; cases h) (by simp [Oper.about, hop]) ?_ ⟨_, rfl, Below.refl _ _, rfl⟩
   unfold execOp
   rw [hop]
   clear hr hd hB
   clear qx qo bx ol
   generalize a'.eval = ρ at e0 ⊢
   go_simp
  ·obtain ⟨hop, hdst⟩ := XReg.op_is (x := .load 3 (.tmp 26)) (d := some 27) ho (by kernel_rfl)
   have e0 : a'.eval (.tmp 26) = .pointer (some ⟨gb, 5, none⟩) := hd 1 26 (by kernel_rfl) (by omega)
   have hc : w'.cell? ⟨gb, 5, none⟩ = some (.int .i64 a5) := (blk_cell qx 5).trans rfl
   have hu0 := Try.underlying3
   refine XReg.val_ (v := .int .i64 a5) (w1 := w') (by rw [hop]; intro c h; cases h) (by simp [Oper.about, hop]) ?_ ⟨_, rfl, Below.refl _ _, rfl⟩
   unfold execOp
   rw [hop]
   clear hr hd hB
   clear qx qo bx ol
   generalize a'.eval = ρ at e0 ⊢
   go_simp
  ·obtain ⟨hop, hdst⟩ := XReg.op_is (x := .binOp .neq 3 (.tmp 27) (.const (.int .i64 (-1))) 3) (d := some 28) ho (by kernel_rfl)
   have e0 : a'.eval (.tmp 27) = .int .i64 a5 := hd 2 27 (by kernel_rfl) (by omega)
   have e9 : a'.eval (.const (.int .i64 (-1))) = .int .i64 (-1) := rfl
   have hu0 := Try.underlying3
   refine XReg.val_ (v := .bool (a5 != -1)) (w1 := w') (by rw [hop]; intro c h; cases h) (by simp [Oper.about, hop]) ?_ ⟨_, rfl, Below.refl _ _, rfl⟩
   unfold execOp
   rw [hop]
   clear hr hd hB
   clear qx qo bx ol
   generalize a'.eval = ρ at e0 e9 ⊢
   go_simp
  ·obtain ⟨hop, hdst⟩ := XReg.op_is (x := .fieldAddr 26 (.tmp 1) 5) (d := some 29) ho (by kernel_rfl)
   have e0 := (hr 1 (by kernel_rfl)).trans h1
   have hu0 := Try.underlying26
   refine XReg.val_ (v := .pointer (some ⟨gb, 5, none⟩)) (w1 := w') (by rw [hop]; intro c h; cases h) (by simp [Oper.about, hop]) ?_ ⟨_, rfl, Below.refl _ _, rfl⟩
   unfold execOp
   rw [hop]
   clear hr hd hB
   clear qx qo bx ol
   generalize a'.eval = ρ at e0 ⊢
   go_simp
  ·obtain ⟨hop, hdst⟩ := XReg.op_is (x := .load 3 (.tmp 29)) (d := some 30) ho (by kernel_rfl)
   have e0 : a'.eval (.tmp 29) = .pointer (some ⟨gb, 5, none⟩) := hd 4 29 (by kernel_rfl) (by omega)
   have hc : w'.cell? ⟨gb, 5, none⟩ = some (.int .i64 a5) := (blk_cell qx 5).trans rfl
   have hu0 := Try.underlying3
   refine XReg.val_ (v := .int .i64 a5) (w1 := w') (by rw [hop]; intro c h; cases h) (by simp [Oper.about, hop]) ?_ ⟨_, rfl, Below.refl _ _, rfl⟩
   unfold execOp
   rw [hop]
   clear hr hd hB
   clear qx qo bx ol
   generalize a'.eval = ρ at e0 ⊢
   go_simp
  obtain ⟨hop, hdst⟩ := XReg.op_is (x := .call { callee := .value (.func 42), args := #[.tmp 30], argTypes := #[3] }) (d := some 31) ho (by kernel_rfl)
  have e0 : a'.eval (.tmp 30) = .int .i64 a5 := hd 5 30 (by kernel_rfl) (by omega)
  refine XReg.call_ (ro := none) Try.func42 (by kernel_rfl) rfl #[.int .i64 a5] hop (by simp [e0]) ?_
  refine (opt6_PutStatus.calls 1000 a5 st w' hst).mono ?_
  rintro e w2 ⟨rfl, hb2⟩
  exact ⟨_, rfl, _, rfl, hb2, rfl⟩
 intro o a' w' ho hB hdf hsz' hr hd
 have qx := blk_below bx hB
 have qo := ol.below hB
 have hfill := XReg.fill_eq [25, 26, 27, 28, 29, 30, 31] hsz' hdf (XReg.rest_of (ops := opsOf Try.f22 5) (m := 7) (by kernel_rfl) hr)
 obtain ⟨hop, hdst⟩ := XReg.op_is (x := .call { callee := .value (.tmp 25), args := #[.tmp 28, .const (.int .u16 13), .tmp 31], argTypes := #[4, 40, 9] }) (d := some 32) ho (by kernel_rfl)
 have e0 : a'.eval (.tmp 25) = .func (.func 41) #[] #[.pointer (some ⟨gl, 0, none⟩)] := hd 0 25 (by kernel_rfl) (by omega)
 have e1 : a'.eval (.tmp 28) = .bool (a5 != -1) := hd 3 28 (by kernel_rfl) (by omega)
 have e2 : a'.eval (.tmp 31) = .string st := hd 6 31 (by kernel_rfl) (by omega)
 have e9 : a'.eval (.const (.int .u16 13)) = .int .u16 13 := rfl
 refine XReg.callv_ (ro := none) #[.pointer (some ⟨gl, 0, none⟩)] Try.func41 (by kernel_rfl) rfl #[.bool (a5 != -1), .int .u16 13, .string st] hop e0 (by simp [e1, e2, e9]) ?_
 refine (optAdd_calls (a5 != -1) 13 st w0 gl l w' qo hl).mono ?_
 rintro e w2 ⟨rfl, ho2, hoth⟩
 exact ⟨_, rfl, by rw [hdst, hfill]; exact hK _ _ ho2 (hoth gb _ _ qx (by decide) (by decide))⟩
theorem w6add_len (is : Bool) (code : Int) (data : ByteArray) (l : List S42) : (w6add is code data l).length ≤ l.length + 1 := by
 unfold w6add
 split
 ·simp
 omega
def w6head (a2 a3 : ByteArray) (a5 : Int) (st : ByteArray) (a6 a7 : Bool) (a8 : Int) : List S42 :=
  w6add (a8 != 0) 19 (strOfNums [a8 % 256]) (w6add a7 20 ⟨#[]⟩ (w6add a6 14 ⟨#[]⟩ (w6add (a5 != -1) 13 st (w6add (!a3.toList.isEmpty) 2 a3 (w6add (!a2.toList.isEmpty) 1 a2 [])))))
theorem w6head_len (a2 a3 : ByteArray) (a5 : Int) (st : ByteArray) (a6 a7 : Bool) (a8 : Int) : (w6head a2 a3 a5 st a6 a7 a8).length ≤ 6 := by
 unfold w6head
 refine Nat.le_trans (w6add_len _ _ _ _) (Nat.succ_le_succ (Nat.le_trans (w6add_len _ _ _ _) (Nat.succ_le_succ (Nat.le_trans (w6add_len _ _ _ _) (Nat.succ_le_succ (Nat.le_trans (w6add_len _ _ _ _) (Nat.succ_le_succ (Nat.le_trans (w6add_len _ _ _ _) (Nat.succ_le_succ (Nat.le_trans (w6add_len _ _ _ _) (Nat.le_refl _)))))))))))
def w6put : List S51 → List S42 → Option (List S42 × Int)
  | [], acc => some (acc, 0)
  | x :: xs, acc => (opt6_PutIA.f x.f0 x.f1 x.f2 x.f3 x.f4 x.f5).bind fun p => if p.2.2 = 0 then w6put xs (acc ++ [⟨p.1, p.2.1⟩]) else some ([], p.2.2)
def wire6_options.f (a0 a1 : Int) (a2 a3 : ByteArray) (l4 : List S51) (a5 : Int) (a6 a7 : Bool) (a8 : Int) (l9 : List S42) : Option (List S42 × Int) :=
  if l4.length + l9.length < 5864062014700 then (opt6_PutStatus.f 1000 a5).bind fun st => (w6put l4 (w6head a2 a3 a5 st a6 a7 a8)).bind fun q => if q.2 = 0 then some (q.1 ++ l9, 0) else some ([], q.2) else none
theorem w6lit_conv (W : World) (x : Int) : (convert 47 9 (.slice (some ⟨W.heap.size, 0, none⟩) 1 1)).run Try.prog (W.alloc (.cells #[.int .u8 x] 5)) = .ok (.string (strOfNums [x])) (W.alloc (.cells #[.int .u8 x] 5)) :=
 run_convert_bytes_arg (P := Try.prog) _ 47 5 Try.underlying47 Try.underlying5 W.heap.size 0 1 1 [x] rfl (fun i hi => by
  obtain rfl : i = 0 := by omega
  exact (blk_cell (blk_new W (.cells #[.int .u8 x] 5)) 0).trans rfl) 9 Try.underlying9
set_option maxHeartbeats 8000000 in
set_option maxRecDepth 100000 in
theorem wire6_options.calls (a0 a1 : Int) (a2 a3 : ByteArray) (A4 : Option Addr) (c4 : Nat) (l4 : List S51) (a5 : Int) (a6 a7 : Bool) (a8 : Int) (A9 : Option Addr) (c9 : Nat) (l9 : List S42) (r1 : List S42) (r2 : Int) (w : World)
 (hr4 : Kd.C k51 w A4 l4.length l4) (hc4 : l4.length ≤ c4) (hr9 : Kd.C k42 w A9 l9.length l9) (hc9 : l9.length ≤ c9) (h : wire6_options.f a0 a1 a2 a3 l4 a5 a6 a7 a8 l9 = some (r1, r2)) :
 Calls Try.prog 22 #[.agg #[.int .i64 a0, .int .u32 a1, .string a2, .string a3, .slice A4 l4.length c4, .int .i64 a5, .bool a6, .bool a7, .int .i64 a8, .slice A9 l9.length c9]] w fun e w' => ∃ v0_ : Value, e = .returned (.tuple #[v0_, .int .i64 r2]) ∧ Kd.R k42 42 w' w.heap.size (fun _ => True) v0_ r1 ∧ Below w.heap.size w w' := by
 unfold wire6_options.f at h
 by_cases hsz : l4.length + l9.length < 5864062014700
 case neg => rw [if_neg hsz] at h; cases h
 rw [if_pos hsz] at h
 obtain ⟨st, hst, h⟩ := Option.bind_eq_some_iff.1 h
 have HST := ak_ hst
 have H0 := ak_ h
 have HSZ := ak_ hsz
 have HR4 := ak_ hr4
 have HC4 := ak_ hc4
 have HR9 := ak_ hr9
 have HC9 := ak_ hc9
 have HL4 : Aside0 (l4.length ≤ 9223372036854775807) := ⟨Kd.C_max hr4⟩
 clear hst h hsz hr4 hc4 hr9 hc9
 have hu26 := Try.underlying26
 have hu24 := Try.underlying24
 have hu42 := Try.underlying42
 have hu51 := Try.underlying51
 have hi51 : (Try.prog.info? 51).map (·.size) = some 6 := by kernel_rfl
 have hmf : ∀ (fn : Fn) (first cap : Array Value) (w : World), (Instr.makeFunc fn first cap).run Try.prog w = .ok (.func fn first cap) w := fun _ _ _ _ => rfl
 go_enter Try.func22, Try.ntmps22
 go_upto_region 2 with fail
 have BX0 : Aside0 (((w.alloc (.cells #[.int .i64 a0, .int .u32 a1, .string a2, .string a3, .slice A4 l4.length c4, .int .i64 a5, .bool a6, .bool a7, .int .i64 a8, .slice A9 l9.length c9] 26)).alloc (.cells #[.slice none 0 0] 24)).heap[w.heap.size]? = some (.cells #[.int .i64 a0, .int .u32 a1, .string a2, .string a3, .slice A4 l4.length c4, .int .i64 a5, .bool a6, .bool a7, .int .i64 a8, .slice A9 l9.length c9] 26 (0, 0))) := ⟨by rw [Below.heap_alloc _ _ _ (by rw [World.size_alloc]; omega)]; exact blk_new w _⟩
 have OL0 : Aside0 (OL w (w.alloc (.cells #[.int .i64 a0, .int .u32 a1, .string a2, .string a3, .slice A4 l4.length c4, .int .i64 a5, .bool a6, .bool a7, .int .i64 a8, .slice A9 l9.length c9] 26)).heap.size [] ((w.alloc (.cells #[.int .i64 a0, .int .u32 a1, .string a2, .string a3, .slice A4 l4.length c4, .int .i64 a5, .bool a6, .bool a7, .int .i64 a8, .slice A9 l9.length c9] 26)).alloc (.cells #[.slice none 0 0] 24))) := ⟨⟨⟨_, blk_new (w.alloc (.cells #[.int .i64 a0, .int .u32 a1, .string a2, .string a3, .slice A4 l4.length c4, .int .i64 a5, .bool a6, .bool a7, .int .i64 a8, .slice A9 l9.length c9] 26)) _, Kd.R_nil _ _ _ _ _⟩, below_alloc (below_alloc (Below.refl _ w) _) _, by rw [World.size_alloc]; omega⟩⟩
 have GE : Aside0 (w.heap.size ≤ (w.alloc (.cells #[.int .i64 a0, .int .u32 a1, .string a2, .string a3, .slice A4 l4.length c4, .int .i64 a5, .bool a6, .bool a7, .int .i64 a8, .slice A9 l9.length c9] 26)).heap.size) := ⟨by rw [World.size_alloc]; omega⟩
 (try simp only [World.size_alloc] at OL0 GE)
 generalize (w.alloc (.cells #[.int .i64 a0, .int .u32 a1, .string a2, .string a3, .slice A4 l4.length c4, .int .i64 a5, .bool a6, .bool a7, .int .i64 a8, .slice A9 l9.length c9] 26)).alloc (.cells #[.slice none 0 0] 24) = W0 at BX0 OL0 ⊢
 generalize w.heap.size + 1 = gl at OL0 GE ⊢
 generalize hgb : w.heap.size = gb at BX0 ⊢
 have hx2_0 : World.cell? W0 ⟨gb, 2, none⟩ = some (.string a2) := (blk_cell BX0.out 2).trans rfl
 go_upto_region 4 with (go_at_call 41; refine (optAdd_calls (!a2.toList.isEmpty) 1 a2 w gl [] _ OL0.out (by have h1_ : ([] : List S42).length ≤ 0 := by { (repeat (first | exact Nat.zero_le _)) }; omega)).mono ?_; rintro e W1 ⟨rfl, ho, hoth⟩; have OL1 : Aside0 (OL w gl (w6add (!a2.toList.isEmpty) 1 a2 []) W1) := ⟨ho⟩; have BX1 := ak_ (hoth gb _ _ BX0.out (by decide) (by decide)); clear ho hoth)
 have hx3_1 : World.cell? W1 ⟨gb, 3, none⟩ = some (.string a3) := (blk_cell BX1.out 3).trans rfl
 go_upto_region 5 with (go_at_call 41; refine (optAdd_calls (!a3.toList.isEmpty) 2 a3 w gl (w6add (!a2.toList.isEmpty) 1 a2 []) _ OL1.out (by have h1_ : ((w6add (!a2.toList.isEmpty) 1 a2 []) : List S42).length ≤ 1 := by { (repeat (first | exact Nat.zero_le _ | refine Nat.le_trans (w6add_len _ _ _ _) (Nat.succ_le_succ ?_))) }; omega)).mono ?_; rintro e W2 ⟨rfl, ho, hoth⟩; have OL2 : Aside0 (OL w gl (w6add (!a3.toList.isEmpty) 2 a3 (w6add (!a2.toList.isEmpty) 1 a2 [])) W2) := ⟨ho⟩; have BX2 := ak_ (hoth gb _ _ BX1.out (by decide) (by decide)); clear ho hoth)
 have hx5_2 : World.cell? W2 ⟨gb, 5, none⟩ = some (.int .i64 a5) := (blk_cell BX2.out 5).trans rfl
 go_upto_region 5 with fail
 refine w6reg5 _ rfl _ _ _ _ (by kernel_rfl) gb gl st w (w6add (!a3.toList.isEmpty) 2 a3 (w6add (!a2.toList.isEmpty) 1 a2 [])) a0 a1 a2 a3 A4 l4.length c4 a5 a6 a7 a8 A9 l9.length c9 rfl rfl BX2.out OL2.out (by have h1_ : ((w6add (!a3.toList.isEmpty) 2 a3 (w6add (!a2.toList.isEmpty) 1 a2 [])) : List S42).length ≤ 2 := by { (repeat (first | exact Nat.zero_le _ | refine Nat.le_trans (w6add_len _ _ _ _) (Nat.succ_le_succ ?_))) }; omega) HST.out ?_
 intro u W3 ho hx
 have OL3 := ak_ ho
 have BX3 := ak_ hx
 clear ho hx
 simp only [XReg.fills, List.foldl_cons, List.foldl_nil, Act.put, List.setIfInBounds_toArray, List.set_cons_zero, List.set_cons_succ]
 have hx6_3 : World.cell? W3 ⟨gb, 6, none⟩ = some (.bool a6) := (blk_cell BX3.out 6).trans rfl
 go_upto_region 7 with (go_at_call 41; refine (optAdd_calls a6 14 ⟨#[]⟩ w gl (w6add (a5 != -1) 13 st (w6add (!a3.toList.isEmpty) 2 a3 (w6add (!a2.toList.isEmpty) 1 a2 []))) _ OL3.out (by have h1_ : ((w6add (a5 != -1) 13 st (w6add (!a3.toList.isEmpty) 2 a3 (w6add (!a2.toList.isEmpty) 1 a2 []))) : List S42).length ≤ 3 := by { (repeat (first | exact Nat.zero_le _ | refine Nat.le_trans (w6add_len _ _ _ _) (Nat.succ_le_succ ?_))) }; omega)).mono ?_; rintro e W4 ⟨rfl, ho, hoth⟩; have OL4 : Aside0 (OL w gl (w6add a6 14 ⟨#[]⟩ (w6add (a5 != -1) 13 st (w6add (!a3.toList.isEmpty) 2 a3 (w6add (!a2.toList.isEmpty) 1 a2 [])))) W4) := ⟨ho⟩; have BX4 := ak_ (hoth gb _ _ BX3.out (by decide) (by decide)); clear ho hoth)
 have hx7_4 : World.cell? W4 ⟨gb, 7, none⟩ = some (.bool a7) := (blk_cell BX4.out 7).trans rfl
 go_upto_region 8 with (go_at_call 41; refine (optAdd_calls a7 20 ⟨#[]⟩ w gl (w6add a6 14 ⟨#[]⟩ (w6add (a5 != -1) 13 st (w6add (!a3.toList.isEmpty) 2 a3 (w6add (!a2.toList.isEmpty) 1 a2 [])))) _ OL4.out (by have h1_ : ((w6add a6 14 ⟨#[]⟩ (w6add (a5 != -1) 13 st (w6add (!a3.toList.isEmpty) 2 a3 (w6add (!a2.toList.isEmpty) 1 a2 [])))) : List S42).length ≤ 4 := by { (repeat (first | exact Nat.zero_le _ | refine Nat.le_trans (w6add_len _ _ _ _) (Nat.succ_le_succ ?_))) }; omega)).mono ?_; rintro e W5 ⟨rfl, ho, hoth⟩; have OL5 : Aside0 (OL w gl (w6add a7 20 ⟨#[]⟩ (w6add a6 14 ⟨#[]⟩ (w6add (a5 != -1) 13 st (w6add (!a3.toList.isEmpty) 2 a3 (w6add (!a2.toList.isEmpty) 1 a2 []))))) W5) := ⟨ho⟩; have BX5 := ak_ (hoth gb _ _ BX4.out (by decide) (by decide)); clear ho hoth)
 have hx8_5 : World.cell? W5 ⟨gb, 8, none⟩ = some (.int .i64 a8) := (blk_cell BX5.out 8).trans rfl
 have hcv := fun W => w6lit_conv W (a8 % 256)
 go_upto_region 9 with (go_at_call 41; refine (optAdd_calls (a8 != 0) 19 (strOfNums [a8 % 256]) w gl (w6add a7 20 ⟨#[]⟩ (w6add a6 14 ⟨#[]⟩ (w6add (a5 != -1) 13 st (w6add (!a3.toList.isEmpty) 2 a3 (w6add (!a2.toList.isEmpty) 1 a2 []))))) _ (OL5.out.below (below_alloc (Below.refl _ _) _)) (by have h1_ : ((w6add a7 20 ⟨#[]⟩ (w6add a6 14 ⟨#[]⟩ (w6add (a5 != -1) 13 st (w6add (!a3.toList.isEmpty) 2 a3 (w6add (!a2.toList.isEmpty) 1 a2 []))))) : List S42).length ≤ 5 := by { (repeat (first | exact Nat.zero_le _ | refine Nat.le_trans (w6add_len _ _ _ _) (Nat.succ_le_succ ?_))) }; omega)).mono ?_; rintro e W6 ⟨rfl, ho, hoth⟩; have OL6 : Aside0 (OL w gl (w6add (a8 != 0) 19 (strOfNums [a8 % 256]) (w6add a7 20 ⟨#[]⟩ (w6add a6 14 ⟨#[]⟩ (w6add (a5 != -1) 13 st (w6add (!a3.toList.isEmpty) 2 a3 (w6add (!a2.toList.isEmpty) 1 a2 [])))))) W6) := ⟨ho⟩; have BX6 := ak_ (hoth gb _ _ (blk_alloc BX5.out _) (by decide) (by decide)); clear ho hoth)
 have OLh : Aside0 (OL w gl (w6head a2 a3 a5 st a6 a7 a8) W6) := OL6
 have HLEN := ak_ (w6head_len a2 a3 a5 st a6 a7 a8)
 generalize w6head a2 a3 a5 st a6 a7 a8 = hd0 at OLh HLEN H0
 clear OL0 OL1 OL2 OL3 OL4 OL5 OL6 BX0 BX1 BX2 BX3 BX4 BX5 HST hcv
 have hx6_4 : World.cell? W6 ⟨gb, 4, none⟩ = some (.slice A4 l4.length c4) := (blk_cell BX6.out 4).trans rfl
 go_upto_region 10 with fail
 clear hx6_4
 have HN : Aside0 (∃ n, n = l4.length) := ⟨_, rfl⟩
 go_loopg [7, 8, 9, 54] l4.length (fun gg _ _ _ s54 wr => ∃ (kk : Nat) (acc : List S42), Aside0 (kk ≤ l4.length ∧ l4.length - kk ≤ gg) ∧ s54 = .int .i64 kk ∧ Aside0 (OL w gl acc wr) ∧ Aside0 (wr.heap[gb]? = some (.cells #[.int .i64 a0, .int .u32 a1, .string a2, .string a3, .slice A4 l4.length c4, .int .i64 a5, .bool a6, .bool a7, .int .i64 a8, .slice A9 l9.length c9] 26 (0, 0))) ∧ Aside0 (acc.length ≤ 6 + kk) ∧ Aside0 (((w6put (l4.drop kk) acc).bind fun q => if q.2 = 0 then some (q.1 ++ l9, 0) else some ([], q.2)) = some (r1, r2)))
 case atStart => exact ⟨0, hd0, ⟨by omega⟩, rfl, OLh, BX6, ⟨by have := HLEN.out; omega⟩, by rw [List.drop_zero]; exact H0⟩
 case round =>
 clear OLh BX6 HLEN H0 HN
 obtain ⟨kk, acc, HK, rfl, OLr, BX, HA, H⟩ := hrel
 by_cases hlt : kk < l4.length
 ·have hltz : (kk : Int) < (l4.length : Int) := by omega
  obtain ⟨ad, A5, c5, hA, hx0, hx1, hx2, hx3, hx4, hx5, hle5, g5⟩ := at_T51 (Kd.C_below HR4.out OLr.out.bel) (kk : Int) (by omega) (by omega)
  subst hA
  simp only [Int.toNat_natCast] at hx0 hx1 hx2 hx3 hx4 hx5
  have hd : l4.drop kk = (rd_T51 l4 (kk : Int)) :: l4.drop (kk + 1) := by
   rw [List.drop_eq_getElem_cons hlt]
   simp [rd_T51, List.getD_eq_getElem?_getD, List.getElem?_eq_getElem hlt]
  have h := H.out
  rw [hd] at h
  obtain ⟨x, hx⟩ : ∃ x, x = rd_T51 l4 (kk : Int) := ⟨_, rfl⟩
  rw [← hx] at h hx0 hx1 hx2 hx3 hx4 hx5 hle5 g5
  clear hd hx H
  have HLT := ak_ hlt
  have G5 := ak_ g5
  have LE5 := ak_ hle5
  obtain ⟨q, hq, hq2⟩ := Option.bind_eq_some_iff.1 h
  rw [w6put] at hq
  obtain ⟨p, hp, hp2⟩ := Option.bind_eq_some_iff.1 hq
  obtain ⟨pc, pd, pe⟩ := p
  have HP := ak_ hp
  clear h hq hp hlt g5 hle5
  go_upto_region 12 with fail
  have OLa := ak_ (OLr.out.below (below_alloc (Below.refl _ wr) (.cells #[.int .i64 x.f0, .int .u32 x.f1, .int .u32 x.f2, .int .u32 x.f3, .slice A5 x.f4.length c5, .int .i64 x.f5] 51)))
  have BXa := ak_ (blk_alloc BX.out (.cells #[.int .i64 x.f0, .int .u32 x.f1, .int .u32 x.f2, .int .u32 x.f3, .slice A5 x.f4.length c5, .int .i64 x.f5] 51))
  have Ga := ak_ (Kd.C_alloc G5.out (.cells #[.int .i64 x.f0, .int .u32 x.f1, .int .u32 x.f2, .int .u32 x.f3, .slice A5 x.f4.length c5, .int .i64 x.f5] 51))
  have ba := blk_new wr (.cells #[.int .i64 x.f0, .int .u32 x.f1, .int .u32 x.f2, .int .u32 x.f3, .slice A5 x.f4.length c5, .int .i64 x.f5] 51)
  generalize wr.alloc (.cells #[.int .i64 x.f0, .int .u32 x.f1, .int .u32 x.f2, .int .u32 x.f3, .slice A5 x.f4.length c5, .int .i64 x.f5] 51) = wa at OLa BXa Ga ba ⊢
  generalize wr.heap.size = ga at ba ⊢
  have ha0 : World.cell? wa ⟨ga, 0, none⟩ = some (.int .i64 x.f0) := (blk_cell ba 0).trans rfl
  have ha1 : World.cell? wa ⟨ga, 1, none⟩ = some (.int .u32 x.f1) := (blk_cell ba 1).trans rfl
  have ha2 : World.cell? wa ⟨ga, 2, none⟩ = some (.int .u32 x.f2) := (blk_cell ba 2).trans rfl
  have ha3 : World.cell? wa ⟨ga, 3, none⟩ = some (.int .u32 x.f3) := (blk_cell ba 3).trans rfl
  have ha4 : World.cell? wa ⟨ga, 4, none⟩ = some (.slice A5 x.f4.length c5) := (blk_cell ba 4).trans rfl
  have ha5 : World.cell? wa ⟨ga, 5, none⟩ = some (.int .i64 x.f5) := (blk_cell ba 5).trans rfl
  clear hx0 hx1 hx2 hx3 hx4 hx5 OLr BX G5 ba
  go_upto_region 13 with (go_at_call 43; refine (opt6_PutIA.calls x.f0 x.f1 x.f2 x.f3 A5 c5 x.f4 x.f5 pc pd pe _ Ga.out LE5.out HP.out).mono ?_; rintro e w5 ⟨rfl, hb⟩; have OLb := ak_ (OLa.out.below hb); have BXb := ak_ (blk_below BXa.out hb); clear hb)
  have OLc := ak_ (OLb.out.below (below_alloc (Below.refl _ w5) (.cells #[.int .u16 pc, .string pd] 42)))
  have BXc := ak_ (blk_alloc BXb.out (.cells #[.int .u16 pc, .string pd] 42))
  have bo := blk_new w5 (.cells #[.int .u16 pc, .string pd] 42)
  generalize w5.alloc (.cells #[.int .u16 pc, .string pd] 42) = wc at OLc BXc bo ⊢
  generalize w5.heap.size = go_ at bo ⊢
  have ho0 : World.cell? wc ⟨go_, 0, none⟩ = some (.int .u16 pc) := (blk_cell bo 0).trans rfl
  have ho1 : World.cell? wc ⟨go_, 1, none⟩ = some (.string pd) := (blk_cell bo 1).trans rfl
  clear ha0 ha1 ha2 ha3 ha4 ha5 OLa OLb BXa BXb Ga HP bo
  by_cases he : pe = 0
  ·subst he
   have HP2 : Aside0 (((w6put (l4.drop (kk + 1)) (acc ++ [⟨pc, pd⟩])).bind fun q => if q.2 = 0 then some (q.1 ++ l9, 0) else some ([], q.2)) = some (r1, r2)) := ⟨by rw [show w6put (l4.drop (kk + 1)) (acc ++ [⟨pc, pd⟩]) = some q from hp2]; exact hq2⟩
   clear hp2 hq2
   obtain ⟨⟨v, hb, hr⟩, hbel, hlow⟩ := OLc.out
   have BK := ak_ hb
   have HR := ak_ hr
   have HB := ak_ hbel
   have LO := ak_ hlow
   have hc0 : wc.cell? ⟨gl, 0, none⟩ = some v := (blk_cell hb 0).trans rfl
   obtain ⟨Av, cv, rfl⟩ := Kd.R_slice hr
   clear hb hr hbel hlow OLc
   go_wp2_with ((with_reducible refine gate_builtin (b := .append) (xs := #[.tmp 66, .tmp 68]) rfl ?_); at_builtin; refine Kd.R_append k42 (w0 := wc) w.heap.size rfl (.tmp 66) (.tmp 68) 24 42 (.agg #[(.int .u16 0), (.string ⟨#[]⟩)]) 24 rfl Try.underlying24 info42 rfl (by decide) (by omega) (.slice Av acc.length cv) acc (⟨pc, pd⟩ : S42) [.int .u16 pc, .string pd] (fun _ => True) (fun _ => False) rfl rfl ?aP (fun _ hk => hk.elim) (fun _ _ => trivial) HR.out (Below.refl _ _) HB.out.size ?aL ?_; (case aP => exact k42_mkM _ _ _ (⟨pc, pd⟩ : S42)); (case aL => have := HA.out; have := HSZ.out; have := HLT.out; omega); intro v1 w1 ho hb1 hg hat; have BK1 := ak_ (blk_grown BK.out hg (Kd.R_ne HR.out BK.out (by decide))); have hc1 : w1.cell? ⟨gl, 0, none⟩ = some (.slice Av acc.length cv) := (blk_cell BK1.out 0).trans rfl; have hf1 := blk_frozen BK1.out 0; have OLn := ak_ (OL.put BK.out HR.out HB.out LO.out ho hb1 hg); obtain ⟨A1, c1, rfl⟩ := Kd.R_slice ho; clear ho hb1 hg hat)
   have hol := OLn.out
   rw [List.length_append] at hol
   go_roundg (l4.length - (kk + 1))
   case measure => have := HK.out; have := HLT.out; omega
   case rel => exact ⟨kk + 1, _, ⟨by have := HLT.out; omega⟩, by first | (rw [Go.IntWalk.wrap64_in _ (by have := HLT.out; have := HL4.out; omega)]; rfl), ⟨hol.1⟩, ⟨hol.2 gb _ _ BXc.out (by decide) (by decide)⟩, ⟨by rw [List.length_append]; have := HA.out; show acc.length + 1 ≤ _; omega⟩, HP2⟩
  have hnz : (pe != 0) = true := by simpa using he
  rw [if_neg he] at hp2
  obtain rfl := Option.some.inj hp2
  rw [if_neg he] at hq2
  have hr12 := Option.some.inj hq2
  injection hr12 with hr1 hr2
  subst hr1 hr2
  have HBL := ak_ OLc.out.bel
  clear hq2 OLc BXc
  go_wp2
  go_ret2
  subst hgb
  exact ⟨_, rfl, Kd.R_nil _ _ _ _ _, HBL.out⟩
 obtain rfl : kk = l4.length := by have := HK.out; omega
 have hltz : ¬ (l4.length : Int) < (l4.length : Int) := by omega
 have h := H.out
 rw [List.drop_length] at h
 have hr12 := Option.some.inj (show some (acc ++ l9, (0 : Int)) = some (r1, r2) from h)
 injection hr12 with hr1 hr2
 subst hr1 hr2
 obtain ⟨⟨v, hb, hr⟩, hbel, hlow⟩ := OLr.out
 have HR := ak_ hr
 have HB := ak_ hbel
 have hc0 : wr.cell? ⟨gl, 0, none⟩ = some v := (blk_cell hb 0).trans rfl
 have hx9 : World.cell? wr ⟨gb, 9, none⟩ = some (.slice A9 l9.length c9) := (blk_cell BX.out 9).trans rfl
 obtain ⟨Av, cv, rfl⟩ := Kd.R_slice hr
 clear hb hr hbel hlow OLr BX h H
 go_wp2_with ((with_reducible refine gate_builtin (b := .append) (xs := #[.tmp 71, .tmp 73]) rfl ?_); at_builtin; refine Kd.R_append_rows k42 (w0 := w) w.heap.size rfl (.tmp 71) (.tmp 73) 24 42 (.agg #[(.int .u16 0), (.string ⟨#[]⟩)]) 24 rfl Try.underlying24 info42 rfl (by decide) (by omega) (.slice Av acc.length cv) acc l9 _ _ _ (fun _ => True) (fun _ => False) rfl rfl ?aO ?aR (fun _ _ h => h) (fun _ h => h.elim) ?aF ?aB ?aS ?aL ?_; (case aR => exact (Kd.C_below HR9.out HB.out)); (case aB => exact HB.out); (case aF => exact (fun _ _ => trivial)); (case aO => exact HR.out); (case aS => exact HB.out.size); (case aL => have := HA.out; have := HSZ.out; omega); intro v1 w1 ho hb1 hg hat; have HR1 := ak_ ho; have HB1 := ak_ hb1; clear ho hb1 hg hat)
 go_ret2
 subst hgb
 exact ⟨_, rfl, HR1.out, HB1.out⟩

def wire6_isAgain.f (a0 : Int) : Option (Bool) := if a0 = 5 then (some true) else (if a0 = 6 then (some true) else (some (a0 == 11)))
set_option maxHeartbeats 8000000 in
set_option maxRecDepth 100000 in
theorem wire6_isAgain.calls (a0 : Int) (r : Bool) (w : World) (h : wire6_isAgain.f a0 = some r) :
 Calls Try.prog 26 #[.int .i64 a0] w fun e w' => e = .returned (.bool r) ∧ Drawn0 w w' := by
 have H : (if a0 = 5 then (some true) else (if a0 = 6 then (some true) else (some (a0 == 11)))) = some r := h
 clear h
 by_cases c2 : a0 = 5
 ·rw [if_pos c2] at H
  have c2b0 : (a0 == 5) = true := beq_iff_eq.mpr c2
  have c2b1 : (a0 != 5) = false := bne_eq_false_iff_eq.mpr c2
  clear c2
  obtain rfl := Option.some.inj H
  go_enter Try.func26, Try.ntmps26
  go_wp2
  go_ret
  exact ⟨by rfl, by repeat (first | exact Drawn0.refl _)⟩
 rw [if_neg c2] at H
 have c2b0 : (a0 == 5) = false := beq_eq_false_iff_ne.mpr c2
 have c2b1 : (a0 != 5) = true := bne_iff_ne.mpr c2
 by_cases c3 : a0 = 6
 ·rw [if_pos c3] at H
  have c3b0 : (a0 == 6) = true := beq_iff_eq.mpr c3
  have c3b1 : (a0 != 6) = false := bne_eq_false_iff_eq.mpr c3
  clear c3
  obtain rfl := Option.some.inj H
  go_enter Try.func26, Try.ntmps26
  go_wp2
  go_ret
  exact ⟨by rfl, by repeat (first | exact Drawn0.refl _)⟩
 rw [if_neg c3] at H
 have c3b0 : (a0 == 6) = false := beq_eq_false_iff_ne.mpr c3
 have c3b1 : (a0 != 6) = true := bne_iff_ne.mpr c3
 obtain rfl := Option.some.inj H
 go_enter Try.func26, Try.ntmps26
 go_wp2
 go_ret
 exact ⟨by rfl, by repeat (first | exact Drawn0.refl _)⟩

def slices_Index_uint16_uint16.l0 : Nat → List Int → Int → Int → Int → Option (Int)
  | 0, _, _, _, _ => none
  | k + 1, x0, x1, x7, x8 => if x8 < x7 then (if 0 ≤ x8 then (if x8 < (x0.length : Int) then (if x1 = (rd x0 x8) then (some x8) else (slices_Index_uint16_uint16.l0 k x0 x1 x7 (wrap64 (x8 + 1)))) else (none)) else (none)) else (some (-1))
def slices_Index_uint16_uint16.f (k : Nat) (l0 : List Int) (a1 : Int) : Option (Int) := slices_Index_uint16_uint16.l0 k l0 a1 (l0.length : Int) 0
set_option maxHeartbeats 8000000 in
set_option maxRecDepth 100000 in
theorem slices_Index_uint16_uint16.calls (k : Nat) (A0 : Option Addr) (c0 : Nat) (l0 : List Int) (a1 : Int) (r : Int) (w : World) (hr0 : Kd.C (Kd.int .u16) w A0 l0.length l0) (hc0 : l0.length ≤ c0) (h : slices_Index_uint16_uint16.f k l0 a1 = some r) :
 Calls Try.prog 76 #[.slice A0 l0.length c0, .int .u16 a1] w fun e w' => e = .returned (.int .i64 r) ∧ Drawn0 w w' := by
 have HR0 := ak_ hr0
 have HC0 := ak_ hc0
 clear hr0 hc0
 have H : (slices_Index_uint16_uint16.l0 k l0 a1 (l0.length : Int) 0) = some r := h
 clear h
 have H' := ak_ H
 clear H
 go_enter Try.func76, Try.ntmps76
 go_wp2
 go_loopg [8] k (fun kq v8 w' => ∃ (x8_1 : Int), v8 = .int .i64 x8_1 ∧ Aside0 (slices_Index_uint16_uint16.l0 kq l0 a1 (l0.length : Int) x8_1 = some r) ∧ Aside0 (kq ≤ k) ∧ Drawn0 w w')
 case atStart => exact ⟨(0), (by rfl), H', ⟨Nat.le_refl _⟩, by repeat (first | exact Drawn0.refl _)⟩
 case round =>
 clear H'
 try clear p2
 obtain ⟨x8_1, rfl, HA, HK1, ⟨m1, rfl⟩⟩ := hrel
 cases gk with
 | zero => exact absurd HA.out (by simp [slices_Index_uint16_uint16.l0])
 | succ k1 =>
 have H := HA.out
 clear HA
 simp only [slices_Index_uint16_uint16.l0] at H
 by_cases c3 : x8_1 < (l0.length : Int)
 ·rw [if_pos c3] at H
  have c3b0 : decide (x8_1 < (l0.length : Int)) = true := decide_eq_true c3
  clear c3
  by_cases c4 : 0 ≤ x8_1
  ·rw [if_pos c4] at H
   have c4b0 : decide (0 ≤ x8_1) = true := decide_eq_true c4
   clear c4
   by_cases c5 : x8_1 < (l0.length : Int)
   ·rw [if_pos c5] at H
    have c5b0 : decide (x8_1 < (l0.length : Int)) = true := decide_eq_true c5
    clear c5
    by_cases c6 : a1 = (rd l0 x8_1)
    ·rw [if_pos c6] at H
     have c6b0 : (a1 == (rd l0 x8_1)) = true := beq_iff_eq.mpr c6
     have c6b1 : (a1 != (rd l0 x8_1)) = false := bne_eq_false_iff_eq.mpr c6
     clear c6
     obtain rfl := Option.some.inj H
     have p139 : 0 ≤ (x8_1 : Int) := of_decide_eq_true (by first | (with_reducible assumption))
     have q139 : x8_1 < (l0.length : Int) := of_decide_eq_true (by first | (with_reducible assumption))
     obtain ⟨ad139, e139, hx139_0⟩ := Kd.at_int HR0.out x8_1 p139 q139
     cases e139
     replace p139 := eq_true p139
     replace q139 := eq_true q139
     go_wp2
     go_ret
     exact ⟨by rfl, by repeat (first | exact Drawn0.refl _ | apply Drawn0.step)⟩
    rw [if_neg c6] at H
    have c6b0 : (a1 == (rd l0 x8_1)) = false := beq_eq_false_iff_ne.mpr c6
    have c6b1 : (a1 != (rd l0 x8_1)) = true := bne_iff_ne.mpr c6
    have H' := ak_ H
    clear H
    have p139 : 0 ≤ (x8_1 : Int) := of_decide_eq_true (by first | (with_reducible assumption))
    have q139 : x8_1 < (l0.length : Int) := of_decide_eq_true (by first | (with_reducible assumption))
    obtain ⟨ad139, e139, hx139_0⟩ := Kd.at_int HR0.out x8_1 p139 q139
    cases e139
    replace p139 := eq_true p139
    replace q139 := eq_true q139
    go_wp2
    go_roundg k1
    case measure => have := HK1.out; omega
    case rel => exact ⟨(wrap64 (x8_1 + 1)), (by rfl), H', ⟨by have := HK1.out; omega⟩, by repeat (first | exact Drawn0.refl _ | apply Drawn0.step)⟩
   rw [if_neg c5] at H
   exact absurd H (by simp)
  rw [if_neg c4] at H
  exact absurd H (by simp)
 rw [if_neg c3] at H
 have c3b0 : decide (x8_1 < (l0.length : Int)) = false := decide_eq_false c3
 clear c3
 obtain rfl := Option.some.inj H
 go_wp2
 go_ret
 exact ⟨by rfl, by repeat (first | exact Drawn0.refl _ | apply Drawn0.step)⟩

def slices_Contains_uint16_uint16.f (k : Nat) (l0 : List Int) (a1 : Int) : Option (Bool) := (slices_Index_uint16_uint16.f k l0 a1).bind fun t140 => (some (decide (t140 ≥ 0)))
set_option maxHeartbeats 8000000 in
set_option maxRecDepth 100000 in
theorem slices_Contains_uint16_uint16.calls (k : Nat) (A0 : Option Addr) (c0 : Nat) (l0 : List Int) (a1 : Int) (r : Bool) (w : World) (hr0 : Kd.C (Kd.int .u16) w A0 l0.length l0) (hc0 : l0.length ≤ c0) (h : slices_Contains_uint16_uint16.f k l0 a1 = some r) :
 Calls Try.prog 49 #[.slice A0 l0.length c0, .int .u16 a1] w fun e w' => e = .returned (.bool r) ∧ Drawn0 w w' := by
 have HR0 := ak_ hr0
 have HC0 := ak_ hc0
 clear hr0 hc0
 have H : ((slices_Index_uint16_uint16.f k l0 a1).bind fun t140 => (some (decide (t140 ≥ 0)))) = some r := h
 clear h
 replace H := Option.bind_eq_some_iff.mp H
 obtain ⟨t140, A30, H⟩ := H
 replace H : (some (decide (t140 ≥ 0))) = some r := H
 have A3 := ak_ A30
 clear A30
 obtain rfl := Option.some.inj H
 go_enter Try.func49, Try.ntmps49
 go_wp2_with (first | ((with_reducible refine gate_callee (f := 76) rfl ?_); refine goesL_ (some 7) rfl rfl Try.func76 (by kernel_rfl) rfl #[.slice A0 l0.length c0, .int .u16 a1] rfl (by (try simp only [List.map_toArray, List.map_cons, List.map_nil]); first | rfl) ?_; (with_reducible refine (slices_Index_uint16_uint16.calls k _ _ l0 a1 t140 _ ?side1 ?side2 A3.out).mono ?_); (case side1 => repeat (first | exact HR0.out)); (case side2 => exact HC0.out); rintro e w' ⟨rfl, ⟨nd, rfl⟩⟩; refine ⟨_, rfl, ?_⟩))
 go_ret
 exact ⟨by rfl, by repeat (first | exact Drawn0.refl _ | apply Drawn0.step)⟩

def wire6_isOwn.f (k : Nat) (a0 : Int) : Option (Bool) := (slices_Contains_uint16_uint16.f k (([1, 2, 3, 4, 13, 14, 19, 20, 25] : List Int)) a0).bind fun t144 => (some t144)
set_option maxHeartbeats 8000000 in
set_option maxRecDepth 100000 in
theorem wire6_isOwn.calls (k : Nat) (a0 : Int) (r : Bool) (w : World) (h : wire6_isOwn.f k a0 = some r) :
 Calls Try.prog 27 #[.int .u16 a0] w fun e w' => e = .returned (.bool r) ∧ Below w.heap.size w w' := by
 have HB := ak_ (Below.refl w.heap.size w)
 have H : ((slices_Contains_uint16_uint16.f k (([1, 2, 3, 4, 13, 14, 19, 20, 25] : List Int)) a0).bind fun t144 => (some t144)) = some r := h
 clear h
 obtain ⟨y141, hy141⟩ : ∃ y_ : List Int, y_ = (([1, 2, 3, 4, 13, 14, 19, 20, 25] : List Int)) := ⟨_, rfl⟩
 replace H : ((slices_Contains_uint16_uint16.f k y141 a0).bind fun t144 => (some t144)) = some r := by first | (rw [hy141]; with_reducible exact H)
 have Ny141 := ak_ hy141
 clear hy141
 replace H := Option.bind_eq_some_iff.mp H
 obtain ⟨t144, A20, H⟩ := H
 replace H : (some t144) = some r := H
 have A2 := ak_ A20
 clear A20
 obtain rfl := Option.some.inj H
 go_enter Try.func27, Try.ntmps27
 go_wp2_with (first | ((with_reducible refine gate_dst (N := 3) rfl ?_); refine Kd.R_lit (Kd.int .u16) _ 40 ?hg (N := 3) ?hd (xs := ([1, 2, 3, 4, 13, 14, 19, 20, 25] : List Int)) (inner := [.int .u16 1, .int .u16 2, .int .u16 3, .int .u16 4, .int .u16 13, .int .u16 14, .int .u16 19, .int .u16 20, .int .u16 25]) (ok := fun _ => True) (okp := fun _ => True) ?hr ?hp (fun _ hk => hk) trivial (Below.refl _ _) (Nat.le_refl _) (by simp) ?_; (case hd => rfl); (case hg => rfl); (case hr => go_simp; done); (case hp => exact (Reps.one (show Kd.M (Kd.int .u16) _ _ _ 1 [.int .u16 1] from rfl) (Reps.one (show Kd.M (Kd.int .u16) _ _ _ 2 [.int .u16 2] from rfl) (Reps.one (show Kd.M (Kd.int .u16) _ _ _ 3 [.int .u16 3] from rfl) (Reps.one (show Kd.M (Kd.int .u16) _ _ _ 4 [.int .u16 4] from rfl) (Reps.one (show Kd.M (Kd.int .u16) _ _ _ 13 [.int .u16 13] from rfl) (Reps.one (show Kd.M (Kd.int .u16) _ _ _ 14 [.int .u16 14] from rfl) (Reps.one (show Kd.M (Kd.int .u16) _ _ _ 19 [.int .u16 19] from rfl) (Reps.one (show Kd.M (Kd.int .u16) _ _ _ 20 [.int .u16 20] from rfl) (Reps.one (show Kd.M (Kd.int .u16) _ _ _ 25 [.int .u16 25] from rfl) (Reps.none _ _))))))))))); intro v142 w3 ho4 hb hg_ hnew_; clear hg_ hnew_; (first | rw [← Ny141.out] at ho4); have HO143 := ak_ (Kd.R_lower ho4 (below_size HB.out)); replace HB := bs_ HB hb; clear hb ho4; obtain ⟨Ao5, co5, eo5⟩ := Kd.R_slice HO143.out; subst eo5) | ((with_reducible refine gate_callee (f := 49) rfl ?_); refine goesL_ (some 5) rfl rfl Try.func49 (by kernel_rfl) rfl #[.slice Ao5 y141.length co5, .int .u16 a0] rfl (by (try simp only [List.map_toArray, List.map_cons, List.map_nil]); first | rfl) ?_; (with_reducible refine (slices_Contains_uint16_uint16.calls k _ _ y141 a0 t144 _ ?side1 ?side2 A2.out).mono ?_); (case side1 => repeat (first | exact (Kd.R_reads' HO143.out).2.2)); (case side2 => exact (Kd.R_reads' HO143.out).2.1); rintro e w' ⟨rfl, ⟨nd, rfl⟩⟩; refine ⟨_, rfl, ?_⟩))
 go_ret
 exact ⟨by rfl, by repeat (first | (with_reducible first | exact HB.out | apply pw_below_drewN))⟩

end Go.Proofs.Ythadapbekmmgpaa.X
