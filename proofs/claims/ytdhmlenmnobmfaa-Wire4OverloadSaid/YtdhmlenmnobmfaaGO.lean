/- The law Wire4Overload walked: that the call returns true where Emit, Encode, Decode, Parse answer so: the conditions stand in the statements. By hand. -/
import Derived.Test.YtdhmlenmnobmfaaG3
import Derived.Test.YtdhmlenmnobmfaaGS
namespace Go.Proofs.Ytdhmlenmnobmfaa.X
open Go.RowKit Go.Proofs.YtdhmlenmnobmfaaW.PrintWords Go.Proofs.YtdhmlenmnobmfaaW.PrintLast Go.Proofs.YtdhmlenmnobmfaaW.PrintMore
set_option linter.unusedVariables false
set_option linter.unusedSimpArgs false
/-- A row of bytes put into a field, the rest 0. -/
def fillS (off : Nat) (a s : ByteArray) : Nat → ByteArray
  | 0 => s
  | q + 1 => if q < a.size then XByR.setB (XByR.setB (fillS off a s q) (off + q) 0) (off + q) (bt a (q : Int)) else XByR.setB (fillS off a s q) (off + q) 0
theorem fillS_size (off : Nat) (a s : ByteArray) : ∀ q, (fillS off a s q).size = s.size
  | 0 => rfl
  | q + 1 => by
    rw [fillS]
    split
    · rw [XByR.size_setB, XByR.size_setB, fillS_size off a s q]
    · rw [XByR.size_setB, fillS_size off a s q]
theorem bt_get (a : ByteArray) (q : Nat) (h : q < a.size) : bt a (q : Int) = ((a[q]'h).toNat : Int) := by
  unfold bt
  rw [dif_pos (show ((q : Int)).toNat < a.size by omega)]
  rfl
theorem bt_range (a : ByteArray) (q : Nat) (h : q < a.size) : 0 ≤ bt a (q : Int) ∧ bt a (q : Int) < 256 := by
  rw [bt_get a q h]
  have := (a[q]'h).toNat_lt
  omega
theorem C_one_string {w : World} {g : Nat} (s : ByteArray) (h0 : w.cell? ⟨g, 0, none⟩ = some (.string s)) : Kd.C Kd.string w (some ⟨g, 0, none⟩) [s].length [s] := by
  refine ⟨rfl, by simp, fun _ => ⟨_, rfl, ?_⟩⟩
  intro j p hj
  match j, hj with
  | 0, hj =>
    obtain rfl := Option.some.inj hj
    refine ⟨[.string s], rfl, rfl, fun i u hu => ?_⟩
    rw [add_plain]
    match i, hu with
    | 0, hu => obtain rfl := Option.some.inj hu; exact h0
theorem run_file (h n f : ByteArray) (v : Value) (W : World) : (Instr.field 26 (.agg #[.int .u8 0, .int .u8 0, .int .u8 0, .int .u8 0, .int .u32 0, .int .u16 0, .int .u16 0, .int .u32 0, .int .u32 0, .int .u32 0, .int .u32 0, .string h, .string n, .string f, v]) 13).run Try.prog W = .ok (.string f) W := by
  have hu9 := Try.underlying9
  have hu26 := Try.underlying26
  unfold Instr.field part
  go_simp
  simp [asAgg]
theorem run_name (h n f : ByteArray) (v : Value) (W : World) : (Instr.field 26 (.agg #[.int .u8 0, .int .u8 0, .int .u8 0, .int .u8 0, .int .u32 0, .int .u16 0, .int .u16 0, .int .u32 0, .int .u32 0, .int .u32 0, .int .u32 0, .string h, .string n, .string f, v]) 12).run Try.prog W = .ok (.string n) W := by
  have hu9 := Try.underlying9
  have hu26 := Try.underlying26
  unfold Instr.field part
  go_simp
  simp [asAgg]
/-- What one way of sharing is to answer. -/
def Way (k : Nat) (h : Int) (zN zF : ByteArray) (a0_0 : Int) (a0_1 : Int) (a0_2 : Int) (a0_3 : Int) (a0_4 : Int) (a0_5 : Int) (a0_6 : Int) (a0_7 : Int) (a0_8 : Int) (a0_9 : Int) (a0_10 : Int) (a0_11 : ByteArray) (a0_12 : ByteArray) (a0_13 : ByteArray) (A0_14 : Option Addr) (c0_14 : Nat) (l0_14 : List S47) (t w_ : ByteArray) (ar : ByteArray) : Prop :=
  ∃ n0 n1 n2 n3 n4 n5 n6 n7 n8 n9 n10 n11 n12 n13 ln e1 lp e2, wire4_Decode.f k (t ++ (((ar ++ (⟨#[52, 1]⟩ : ByteArray)) ++ strOfNums [h]) ++ (⟨#[255]⟩ : ByteArray))) = some (n0, n1, n2, n3, n4, n5, n6, n7, n8, n9, n10, n11, n12, n13, ln, e1) ∧ opt4_Parse.f k [w_] = some (lp, e2) ∧
    ((((e1 != 0) = true ∨ (e2 != 0) = true) ∧ (e1 = 0 ∨ e1 = 6)) ∨ (e1 = 0 ∧ e2 = 0 ∧ ∃ lw, opt4_Without.f lp 52 = some lw ∧ tenancylaw14_same.f k n0 n1 n2 n3 n4 n5 n6 n7 n8 n9 n10 n11 n12 n13 ln a0_0 a0_1 a0_2 a0_3 a0_4 a0_5 a0_6 a0_7 a0_8 a0_9 a0_10 a0_11 (if h = 1 then a0_12 else zN) (if h = 2 then a0_13 else zF) lw = some true))
set_option maxHeartbeats 16000000 in
set_option maxRecDepth 100000 in
theorem over_calls (k : Nat) (zH : ByteArray) (zN zF : ByteArray) (a0_0 : Int) (a0_1 : Int) (a0_2 : Int) (a0_3 : Int) (a0_4 : Int) (a0_5 : Int) (a0_6 : Int) (a0_7 : Int) (a0_8 : Int) (a0_9 : Int) (a0_10 : Int) (a0_11 : ByteArray) (a0_12 : ByteArray) (a0_13 : ByteArray) (A0_14 : Option Addr) (c0_14 : Nat) (l0_14 : List S47) (A1 : Option Addr) (c1 : Nat) (l1 : List S47) (A2 : Option Addr) (c2 : Nat) (l2 : List S47) (a b ar es : ByteArray) (e3 : Int) (w : World)
    (hr0 : Kd.C k47 w A0_14 l0_14.length l0_14) (hc0 : l0_14.length ≤ c0_14) (hr1 : Kd.C k47 w A1 l1.length l1) (hc1 : l1.length ≤ c1) (hr2 : Kd.C k47 w A2 l2.length l2) (hc2 : l2.length ≤ c2)
    (haw : tenancylaw14_awake.f k = some true) (ha : opt4_Emit.f k l1 = some (a, 0)) (hb : opt4_Emit.f k l2 = some (b, 0)) (hen : wire4_Encode.f k a0_0 a0_1 a0_2 a0_3 a0_4 a0_5 a0_6 a0_7 a0_8 a0_9 a0_10 a0_11 a0_12 a0_13 l0_14 = some (es, 0)) (har : opt4_Emit.f k l0_14 = some (ar, e3))
    (hsz : (1 ≤ a.size ∧ a.size ≤ 128) ∧ (1 ≤ b.size ∧ b.size ≤ 64) ∧ (240 ≤ es.size ∧ es.size ≤ 60000) ∧ (1 ≤ ar.size ∧ ar.size ≤ 1000000))
    (hbl : wire4_Blank.f = some (0, 0, 0, 0, 0, 0, 0, 0, 0, 0, 0, zH, zN, zF, []))
    (hw1 : Way k 1 zN zF a0_0 a0_1 a0_2 a0_3 a0_4 a0_5 a0_6 a0_7 a0_8 a0_9 a0_10 a0_11 a0_12 a0_13 A0_14 c0_14 l0_14 (fillS 108 a (es.extract 0 240) 128) (ar.extract 0 (ar.size - 1) ++ a.extract 0 (a.size - 1)) (ar.extract 0 (ar.size - 1))) (hw2 : Way k 2 zN zF a0_0 a0_1 a0_2 a0_3 a0_4 a0_5 a0_6 a0_7 a0_8 a0_9 a0_10 a0_11 a0_12 a0_13 A0_14 c0_14 l0_14 (fillS 44 b (es.extract 0 240) 64) (ar.extract 0 (ar.size - 1) ++ b.extract 0 (b.size - 1)) (ar.extract 0 (ar.size - 1))) (hw3 : Way k 3 zN zF a0_0 a0_1 a0_2 a0_3 a0_4 a0_5 a0_6 a0_7 a0_8 a0_9 a0_10 a0_11 a0_12 a0_13 A0_14 c0_14 l0_14 (fillS 44 b (fillS 108 a (es.extract 0 240) 128) 64) ((ar.extract 0 (ar.size - 1) ++ a.extract 0 (a.size - 1)) ++ b.extract 0 (b.size - 1)) (ar.extract 0 (ar.size - 1))) :
    Calls Try.prog 6 #[.agg #[.int .u8 a0_0, .int .u8 a0_1, .int .u8 a0_2, .int .u8 a0_3, .int .u32 a0_4, .int .u16 a0_5, .int .u16 a0_6, .int .u32 a0_7, .int .u32 a0_8, .int .u32 a0_9, .int .u32 a0_10, .string a0_11, .string a0_12, .string a0_13, .slice A0_14 l0_14.length c0_14], .slice A1 l1.length c1, .slice A2 l2.length c2] w fun e w' => e = .returned (.bool true) ∧ Below w.heap.size w w' := by
  have hu26 := Try.underlying26
  have hi26 : (Try.prog.info? 26).map (·.size) = some 15 := by kernel_rfl
  have HR0 := Aside0.mk hr0
  have HC0 := Aside0.mk hc0
  have HR1 := Aside0.mk hr1
  have HC1 := Aside0.mk hc1
  have HR2 := Aside0.mk hr2
  have HC2 := Aside0.mk hc2
  have HAW := Aside0.mk haw
  have HA := Aside0.mk ha
  have HB := Aside0.mk hb
  have HEN := Aside0.mk hen
  have HAR := Aside0.mk har
  have HSZ := Aside0.mk hsz
  have HBL := Aside0.mk hbl
  have HW1 := Aside0.mk hw1
  have HW2 := Aside0.mk hw2
  have HW3 := Aside0.mk hw3
  clear hr0 hc0 hr1 hc1 hr2 hc2 haw ha hb hen har hsz hbl hw1 hw2 hw3
  have ga : decide ((128 : Int) < (a.size : Int)) = false := decide_eq_false (by have := HSZ.out.1; omega)
  have ga2 : decide (128 < a.size) = false := decide_eq_false (by have := HSZ.out.1; omega)
  have gb : decide ((64 : Int) < (b.size : Int)) = false := decide_eq_false (by have := HSZ.out.2.1; omega)
  have gb2 : decide (64 < b.size) = false := decide_eq_false (by have := HSZ.out.2.1; omega)
  have ge : decide ((60000 : Int) < (es.size : Int)) = false := decide_eq_false (by have := HSZ.out.2.2.1; omega)
  have ge2 : decide (60000 < es.size) = false := decide_eq_false (by have := HSZ.out.2.2.1; omega)
  go_enter Try.func6, Try.ntmps6
  go_upto_region 4 with (first | ((with_reducible refine gate_dst (N := 3) rfl ?_); (try (refine gate_guard (by rfl) ?_; dsimp only)); refine box_event ?hg (N := 3) ?hd (cs := #[.int .u8 a0_0, .int .u8 a0_1, .int .u8 a0_2, .int .u8 a0_3, .int .u32 a0_4, .int .u16 a0_5, .int .u16 a0_6, .int .u32 a0_7, .int .u32 a0_8, .int .u32 a0_9, .int .u32 a0_10, .string a0_11, .string a0_12, .string a0_13, .slice A0_14 l0_14.length c0_14]) (t := 26) ?hr ?_;(case hd => rfl); (case hg => rfl); (case hr => first | (go_simp; done) | (go_simp; rfl)); intro gb_ hgb wa hbox hb8; have BK0 := Aside0.mk hbox; have HB0 := Aside0.mk hb8; have GB := Aside0.mk (show w.heap.size ≤ gb_ by rw [hgb]; exact Nat.le_refl _); clear hgb hbox hb8) | (go_at_call 8; refine (tenancylaw14_awake.calls k true _ HAW.out).mono ?_; rintro e w1 ⟨rfl, hb⟩; have BK1 := Aside0.mk (blk_below BK0.out hb); have HB1 := Aside0.mk (below_step HB0.out hb); clear hb) | (go_at_call 18; refine (opt4_Emit.calls k A1 c1 l1 a 0 _ (Kd.C_below HR1.out HB1.out) HC1.out HA.out).mono ?_; rintro e w2 ⟨rfl, hb⟩; have HB2 := Aside0.mk (below_step HB1.out hb); have BK2 := Aside0.mk (blk_below BK1.out hb); clear hb))
  go_upto_region 5 with (go_at_call 18; refine (opt4_Emit.calls k A2 c2 l2 b 0 _ (Kd.C_below HR2.out HB2.out) HC2.out HB.out).mono ?_; rintro e w3 ⟨rfl, hb⟩; have HB3 := Aside0.mk (below_step HB2.out hb); have BK3 := Aside0.mk (blk_below BK2.out hb); clear hb)
  go_upto_region 6 with (first | ((with_reducible refine gate_dst (N := 39) rfl ?_); refine XBox.loadL_ 39 rfl rfl 26 rfl gb_ rfl _ BK3.out hu26 rfl hi26 ?_; simp only [Act.put, List.setIfInBounds_toArray, List.set_cons_zero, List.set_cons_succ]) | (go_at_call 12; refine (wire4_Encode.calls k a0_0 a0_1 a0_2 a0_3 a0_4 a0_5 a0_6 a0_7 a0_8 a0_9 a0_10 a0_11 a0_12 a0_13 A0_14 c0_14 l0_14 es 0 _ (Kd.C_below HR0.out HB3.out) HC0.out HEN.out).mono ?_; rintro e w4 ⟨rfl, hb⟩; have BK4 := Aside0.mk (blk_below BK3.out hb); have HB4 := Aside0.mk (below_step HB3.out hb); clear hb))
  have hcl14 : w4.cell? ⟨gb_, 14, none⟩ = some (.slice A0_14 l0_14.length c0_14) := (blk_cell BK4.out 14).trans rfl
  go_upto_region 9 with (go_at_call 18; refine (opt4_Emit.calls k A0_14 c0_14 l0_14 ar e3 _ (Kd.C_below HR0.out HB4.out) HC0.out HAR.out).mono ?_; rintro e w5 ⟨rfl, hb⟩; have HB5 := Aside0.mk (below_step HB4.out hb); have BK5 := Aside0.mk (blk_below BK4.out hb); clear hb)
  obtain ⟨nr, hnr⟩ : ∃ nr, nr = ar.size - 1 := ⟨_, rfl⟩
  have HNR := Aside0.mk hnr
  have s1 : wrap64 ((ar.size : Int) - 1) = (nr : Int) := by have := HSZ.out.2.2.2; unfold wrap64; omega
  have s2 : (nr ≤ ar.size) = True := eq_true (by omega)
  have s3 : ((nr : Int) ≤ (ar.size : Int)) = True := eq_true (by omega)
  clear hnr
  go_upto_region 11 with fail
  clear s1 s2 s3
  obtain ⟨ax, hax⟩ : ∃ ax, ax = ar.extract 0 nr := ⟨_, rfl⟩
  have HAX := Aside0.mk (show ar.extract 0 (ar.size - 1) = ax by rw [hax, HNR.out])
  have HAZ := Aside0.mk (show ax.size ≤ 1000000 by rw [hax, ByteArray.size_extract]; have := HSZ.out.2.2.2.2; omega)
  rw [← hax]
  clear hax HNR
  obtain ⟨na, hna⟩ : ∃ na, na = a.size - 1 := ⟨_, rfl⟩
  obtain ⟨nb, hnb⟩ : ∃ nb, nb = b.size - 1 := ⟨_, rfl⟩
  have a1 : wrap64 ((a.size : Int) - 1) = (na : Int) := by have := HSZ.out.1; unfold wrap64; omega
  have a2 : (na ≤ a.size) = True := eq_true (by omega)
  have a3 : ((na : Int) ≤ (a.size : Int)) = True := eq_true (by omega)
  have b1 : wrap64 ((b.size : Int) - 1) = (nb : Int) := by have := HSZ.out.2.1; unfold wrap64; omega
  have b2 : (nb ≤ b.size) = True := eq_true (by omega)
  have b3 : ((nb : Int) ≤ (b.size : Int)) = True := eq_true (by omega)
  have AZ := Aside0.mk (show (a.extract 0 na).size ≤ 128 by rw [ByteArray.size_extract]; have := HSZ.out.1.2; omega)
  have BZ := Aside0.mk (show (b.extract 0 nb).size ≤ 64 by rw [ByteArray.size_extract]; have := HSZ.out.2.1.2; omega)
  have HNA := Aside0.mk hna.symm
  have HNB := Aside0.mk hnb.symm
  clear hna hnb
  have cl4 : (9223372036854775807 < ax.size + na) = False := eq_false (by have := HAZ.out; have := HSZ.out.1.2; have := HNA.out; omega)
  have cl5 : (9223372036854775807 < ax.size + nb) = False := eq_false (by have := HAZ.out; have := HSZ.out.2.1.2; have := HNB.out; omega)
  have cl6 : (9223372036854775807 < ax.size + na + nb) = False := eq_false (by have := HAZ.out; have := HSZ.out.2.1.2; have := HSZ.out.1.2; have := HNA.out; have := HNB.out; omega)
  have cl1 : (9223372036854775807 < ax.size + 2) = False := eq_false (by have := HAZ.out; omega)
  have cl2 : ∀ n : Int, (9223372036854775807 < ax.size + 2 + (strOfNums [n]).size) = False := fun n => eq_false (by have := HAZ.out; rw [show (strOfNums [n]).size = 1 from rfl]; omega)
  have cl3 : ∀ n : Int, (9223372036854775807 < ax.size + 2 + (strOfNums [n]).size + 1) = False := fun n => eq_false (by have := HAZ.out; rw [show (strOfNums [n]).size = 1 from rfl]; omega)
  go_loopg [15] 3 (fun gg s15 wr => ∃ hh : Nat, Aside0 (1 ≤ hh ∧ hh ≤ 4 ∧ 4 - hh ≤ gg) ∧ s15 = .int .i64 hh ∧ Aside0 (wr.heap[gb_]? = some (.cells #[.int .u8 a0_0, .int .u8 a0_1, .int .u8 a0_2, .int .u8 a0_3, .int .u32 a0_4, .int .u16 a0_5, .int .u16 a0_6, .int .u32 a0_7, .int .u32 a0_8, .int .u32 a0_9, .int .u32 a0_10, .string a0_11, .string a0_12, .string a0_13, .slice A0_14 l0_14.length c0_14] 26 (0, 0))) ∧ Aside0 (Below w.heap.size w wr))
  case atStart => exact ⟨1, ⟨by omega, by omega, by omega⟩, rfl, BK5, HB5⟩
  case round =>
    obtain ⟨hh, HH, rfl, BKr, HBr⟩ := hrel
    obtain rfl | rfl | rfl | rfl : hh = 4 ∨ hh = 1 ∨ hh = 2 ∨ hh = 3 := by have := HH.out; omega
    case inl =>
      rw [show ((4 : Nat) : Int) = 4 from rfl]
      go_wp2
      go_ret
      exact ⟨rfl, HBr.out⟩
    case inr.inl =>
      rw [show ((1 : Nat) : Int) = 1 from rfl]
      have e1 : (240 ≤ es.size) = True := eq_true HSZ.out.2.2.1.1
      have e2 : ((240 : Int) ≤ (es.size : Int)) = True := eq_true (by have := HSZ.out.2.2.1.1; omega)
      have hcv := print_bytes (P := Try.prog) 9 39 5 Try.underlying9 Try.underlying39 Try.underlying5 (es.extract 0 240) wr
      go_upto_region 14 with fail
      clear hcv e1 e2
      have BY := Aside0.mk (XByR.ByR.new wr 5 (es.extract 0 240))
      have HBy := Aside0.mk (below_step HBr.out (bytes_below (Below.refl _ _) (Nat.le_refl _) 5 (es.extract 0 240)))
      have BKy := Aside0.mk (blk_below BKr.out (bytes_below (Below.refl _ _) (Nat.le_refl _) 5 (es.extract 0 240)))
      have GY := Aside0.mk (show w.heap.size ≤ wr.heap.size from HBr.out.size)
      have GNE := Aside0.mk (show gb_ ≠ wr.heap.size from Nat.ne_of_lt (blk_lt BKr.out))
      have hz0 : (es.extract 0 240).size = 240 := by rw [ByteArray.size_extract]; have := HSZ.out.2.2.1.1; omega
      generalize grownCap wr 240 0 5 = cc at *
      generalize Lib.bytesWorld wr 5 (es.extract 0 240) = wy at BY HBy BKy ⊢
      generalize wr.heap.size = gy at BY GY GNE ⊢
      have hcv2 := run_convert_bytes_arg (P := Try.prog) (wy.alloc (.cells #[.int .u8 1] 5)) 39 5 Try.underlying39 Try.underlying5 wy.heap.size 0 1 1 [1] rfl (fun i hi => by obtain rfl : i = 0 := (by omega); exact (blk_cell (blk_new wy _) 0).trans rfl) 9 Try.underlying9
      go_upto_region 17 with fail
      clear hcv2
      have BYz := Aside0.mk (XByR.ByR.below BY.out (below_alloc (Below.refl _ wy) (.cells #[.int .u8 1] 5)))
      have HBz := Aside0.mk (below_alloc HBy.out (.cells #[.int .u8 1] 5))
      have BKz := Aside0.mk (blk_alloc BKy.out (.cells #[.int .u8 1] 5))
      generalize wy.alloc (.cells #[.int .u8 1] 5) = wz at BYz HBz BKz ⊢
      have HHK := HH
      clear BY HBy BKy BKr HBr HH
      have hz0 : (es.extract 0 240).size = 240 := by first | (rw [ByteArray.size_extract]; have := HSZ.out.2.2.1.1; omega) | (rw [fillS_size, ByteArray.size_extract]; have := HSZ.out.2.2.1.1; omega)
      have HZ0 := Aside0.mk hz0
      clear hz0
      go_upto_region 18 with fail
      go_loopg [19] 128 (fun gg s19 wr => ∃ q : Nat, Aside0 (q ≤ 128 ∧ 128 - q ≤ gg) ∧ s19 = .int .i64 q ∧ Aside0 (XByR.ByR 5 wr gy (fillS 108 a (es.extract 0 240) q)) ∧ Aside0 (wr.heap[gb_]? = some (.cells #[.int .u8 a0_0, .int .u8 a0_1, .int .u8 a0_2, .int .u8 a0_3, .int .u32 a0_4, .int .u16 a0_5, .int .u16 a0_6, .int .u32 a0_7, .int .u32 a0_8, .int .u32 a0_9, .int .u32 a0_10, .string a0_11, .string a0_12, .string a0_13, .slice A0_14 l0_14.length c0_14] 26 (0, 0))) ∧ Aside0 (Below w.heap.size w wr))
      case atStart => exact ⟨0, ⟨by omega, by omega⟩, rfl, BYz, BKz, HBz⟩
      case round =>
        clear BYz BKz HBz
        obtain ⟨q, HQ, rfl, BYq, BKq, HBq⟩ := hrel
        by_cases hq : q < 128
        · obtain ⟨kk, hkk⟩ : ∃ kk : Nat, kk = 108 + q := ⟨_, rfl⟩
          have hkz : kk < (fillS 108 a (es.extract 0 240) q).size := by rw [fillS_size, HZ0.out]; omega
          have hw1 : wrap64 (108 + (q : Int)) = (kk : Int) := by unfold wrap64; omega
          have hw0 : (108 + (q : Int)) = (kk : Int) := by omega
          have hqb : q ≤ 127 := by omega
          have hkb : kk ≤ 239 := by omega
          have hk1 : (kk < 240) = True := eq_true (by omega)
          have hk2 : ((kk : Int) < 240) = True := eq_true (by omega)
          have hk3 : ((0 : Int) ≤ (kk : Int)) = True := eq_true (by omega)
          have hq1 : ((q : Int) < 128) = True := eq_true (by omega)
          have hq2 : (q < 128) = True := eq_true hq
          have hck := BYq.out.cell kk hkz
          have hfk := BYq.out.frozen kk hkz
          have BYp := Aside0.mk (BYq.out.set kk hkz 0 (by decide))
          have hkz1 : kk < (XByR.setB (fillS 108 a (es.extract 0 240) q) kk 0).size := by rw [XByR.size_setB]; exact hkz
          have hck1 := BYp.out.cell kk hkz1
          have hfk1 := BYp.out.frozen kk hkz1
          have HKK := Aside0.mk hkk
          have HKZ1 := Aside0.mk hkz1
          have HBp := Aside0.mk (show Below w.heap.size w (wr.setCell ⟨gy, kk, none⟩ (.int .u8 0)) from below_set HBq.out GY.out)
          clear hkk hkz hkz1
          by_cases hqa : q < a.size
          · have hqa1 : (q < a.size) = True := eq_true hqa
            have hqa2 : ((q : Int) < (a.size : Int)) = True := eq_true (by omega)
            have HQA := Aside0.mk hqa
            clear hqa
            go_wp2
            have hbt := bt_get a q HQA.out
            rw [← hbt]
            have hset := BYp.out.set kk HKZ1.out (bt a (q : Int)) (bt_range a q HQA.out)
            have hfl : fillS 108 a (es.extract 0 240) (q + 1) = XByR.setB (XByR.setB (fillS 108 a (es.extract 0 240) q) kk 0) kk (bt a (q : Int)) := by rw [fillS, if_pos HQA.out, HKK.out]
            have BYn := Aside0.mk (show XByR.ByR 5 _ gy (fillS 108 a (es.extract 0 240) (q + 1)) by rw [hfl]; exact hset)
            have BKn := Aside0.mk (blk_far (blk_far BKq.out (p := ⟨gy, kk, none⟩) GNE.out (.int .u8 0)) (p := ⟨gy, kk, none⟩) GNE.out (.int .u8 (bt a (q : Int))))
            have HBn := Aside0.mk (show Below w.heap.size w ((wr.setCell ⟨gy, kk, none⟩ (.int .u8 0)).setCell ⟨gy, kk, none⟩ (.int .u8 (bt a (q : Int)))) from below_set HBp.out GY.out)
            go_roundg (128 - (q + 1))
            case measure => have := HQ.out; omega
            case rel => exact ⟨q + 1, ⟨by omega, Nat.le_refl _⟩, rfl, BYn, BKn, HBn⟩
          · have hqa1 : (q < a.size) = False := eq_false hqa
            have hqa2 : ((q : Int) < (a.size : Int)) = False := eq_false (by omega)
            have HQA := Aside0.mk hqa
            clear hqa
            go_wp2
            have hfl : fillS 108 a (es.extract 0 240) (q + 1) = XByR.setB (fillS 108 a (es.extract 0 240) q) kk 0 := by rw [fillS, if_neg HQA.out, HKK.out]
            have BYn := Aside0.mk (show XByR.ByR 5 (wr.setCell ⟨gy, kk, none⟩ (.int .u8 0)) gy (fillS 108 a (es.extract 0 240) (q + 1)) by rw [hfl]; exact BYp.out)
            have BKn := Aside0.mk (blk_far BKq.out (p := ⟨gy, kk, none⟩) GNE.out (.int .u8 0))
            go_roundg (128 - (q + 1))
            case measure => have := HQ.out; omega
            case rel => exact ⟨q + 1, ⟨by omega, Nat.le_refl _⟩, rfl, BYn, BKn, HBp⟩
        · obtain rfl : q = 128 := by have := HQ.out; omega
          rw [show ((128 : Nat) : Int) = 128 from rfl]
          go_upto_region 23 with fail
          clear HQ
          go_upto_region 32 with fail
          clear HZ0
          obtain ⟨tt, htt⟩ : ∃ tt, tt = fillS 108 a ((es.extract 0 240)) 128 := ⟨_, rfl⟩
          have htz : tt.size = 240 := by rw [htt]; repeat rw [fillS_size]
                                         rw [ByteArray.size_extract]; have := HSZ.out.2.2.1.1; omega
          have BYf := Aside0.mk (show XByR.ByR 5 wr gy tt by rw [htt]; exact BYq.out)
          obtain ⟨n0, n1, n2, n3, n4, n5, n6, n7, n8, n9, n10, n11, n12, n13, ln, e1, lp, e2, hdec, hpar, hcase⟩ := HW1.out
          rw [HAX.out, ← htt] at hdec
          rw [HAX.out, HNA.out] at hpar
          have HDEC := Aside0.mk hdec
          have HPAR := Aside0.mk hpar
          have HCASE := Aside0.mk hcase
          have hcv3 := XByR.ByR.text BYf.out 39 9 Try.underlying39 Try.underlying5 Try.underlying9 cc
          rw [htz] at hcv3
          have cl7 : (9223372036854775807 < tt.size + (ax.size + 2 + (strOfNums [1]).size + 1)) = False := eq_false (by have := HAZ.out; rw [htz, show (strOfNums [1]).size = 1 from rfl]; omega)
          have cl8 : (9223372036854775807 < 240 + (ax.size + 2 + (strOfNums [1]).size + 1)) = False := eq_false (by have := HAZ.out; rw [show (strOfNums [1]).size = 1 from rfl]; omega)
          clear hdec hpar hcase htt BYq
          go_upto_region 33 with (first | (go_at_call 16; refine (wire4_Decode.calls k _ n0 n1 n2 n3 n4 n5 n6 n7 n8 n9 n10 n11 n12 n13 ln e1 _ HDEC.out).mono ?_; rintro e wd ⟨v14, rfl, hor, hbd⟩; obtain ⟨An, cn, rfl, hln, hCn⟩ := Kd.R_reads hor; have HLN := Aside0.mk hln; have HCN := Aside0.mk hCn; have HBd := Aside0.mk (below_step HBq.out hbd); have BKd := Aside0.mk (blk_below BKq.out hbd); clear hor hbd hln hCn) | ((with_reducible refine gate_dst (N := 21) rfl ?_); refine box_event ?hg (N := 21) ?hd (cs := #[.int .u8 0, .int .u8 0, .int .u8 0, .int .u8 0, .int .u32 0, .int .u16 0, .int .u16 0, .int .u32 0, .int .u32 0, .int .u32 0, .int .u32 0, .string (⟨#[]⟩ : ByteArray), .string (⟨#[]⟩ : ByteArray), .string (⟨#[]⟩ : ByteArray), .slice none 0 0]) (t := 26) ?hr ?_; (case hd => rfl); (case hg => rfl); (case hr => first | (go_simp; done) | (go_simp; rfl)); intro gn hgn wu hbox hbu; have BN0 := Aside0.mk hbox; have HBu := Aside0.mk (below_step HBd.out hbu); have HSu := Aside0.mk hbu; have GN := Aside0.mk (show wd.heap.size ≤ gn by rw [hgn]; exact Nat.le_refl _); clear hgn hbox hbu) | ((with_reducible refine gate_store (p := 21) rfl ?_); refine XBox.storeL_ rfl rfl 26 rfl gn rfl _ #[.int .u8 n0, .int .u8 n1, .int .u8 n2, .int .u8 n3, .int .u32 n4, .int .u16 n5, .int .u16 n6, .int .u32 n7, .int .u32 n8, .int .u32 n9, .int .u32 n10, .string n11, .string n12, .string n13, .slice An ln.length cn] rfl BN0.out hi26 (Eq.refl 15) (by simp [Value.oneCell']) ?_; intro wn hw1 hw2 hw3; have BN := Aside0.mk hw1; have HSn := Aside0.mk (HSu.out.trans (hw2 _ GN.out)); have HBn := Aside0.mk (HBd.out.trans ((HSu.out.trans (hw2 _ GN.out)).mono HBd.out.size)); clear hw1 hw2 hw3))
          have BKn := Aside0.mk (blk_below BKd.out HSn.out)
          clear hcv3 cl7 cl8 BYf BKq HBq BN0 HSu HBu
          go_upto_region 34 with (go_at_call 19; refine (opt4_Parse.calls k _ 1 [ax ++ a.extract 0 na] lp e2 _ (C_one_string _ ((blk_cell (blk_new wn _) 0).trans rfl)) (Nat.le_refl 1) HPAR.out).mono ?_; rintro e wp ⟨vp, rfl, hor, hbp⟩; obtain ⟨Ap, cp, rfl, hlp, hCp⟩ := Kd.R_reads hor; have HLP := Aside0.mk hlp; have HCP := Aside0.mk hCp; have HBp := Aside0.mk (below_step (below_alloc HBn.out _) hbp); have HSp := Aside0.mk (below_step (below_alloc HSn.out _) hbp); have BNp := Aside0.mk (blk_below (blk_alloc BN.out _) hbp); have BKp := Aside0.mk (blk_below (blk_alloc BKn.out _) hbp); clear hor hbp hlp hCp)
          clear HPAR HDEC
          rcases HCASE.out with ⟨hbad, rfl | rfl⟩ | ⟨rfl, rfl, lw, hlw, hsm⟩
          · have he2 : (e2 != 0) = true := by
              rcases hbad with h | h
              · exact absurd h (by decide)
              · exact h
            clear hbad
            go_wp2
            go_ret
            exact ⟨rfl, HBp.out⟩
          · clear hbad
            go_wp2
            go_ret
            exact ⟨rfl, HBp.out⟩
          · have HLW := Aside0.mk hlw
            rw [if_pos trivial, if_neg (by decide)] at hsm
            have HSM := Aside0.mk hsm
            clear hlw hsm HCASE
            go_upto_region 39 with (first | (go_at_call 20; refine (opt4_Without.calls Ap cp lp 52 lw _ HCP.out HLP.out HLW.out).mono ?_; rintro e wo ⟨vo, rfl, hor, hbo⟩; obtain ⟨Ao, co, rfl, hlo, hCo⟩ := Kd.R_reads hor; have HLO := Aside0.mk hlo; have HCO := Aside0.mk hCo; have HBo := Aside0.mk (below_step HBp.out hbo); have HSo := Aside0.mk (below_step HSp.out hbo); have BNo := Aside0.mk (blk_below BNp.out hbo); have BKo := Aside0.mk (blk_below BKp.out hbo); clear hor hbo hlo hCo) | ((with_reducible refine gate_dst (N := 180) rfl ?_); refine XBox.loadL_ 180 rfl rfl 26 rfl gb_ rfl _ BKo.out hu26 rfl hi26 ?_; simp only [Act.put, List.setIfInBounds_toArray, List.set_cons_zero, List.set_cons_succ]) | ((with_reducible refine gate_dst (N := 25) rfl ?_); refine box_event ?hg (N := 25) ?hd (cs := #[.int .u8 0, .int .u8 0, .int .u8 0, .int .u8 0, .int .u32 0, .int .u16 0, .int .u16 0, .int .u32 0, .int .u32 0, .int .u32 0, .int .u32 0, .string (⟨#[]⟩ : ByteArray), .string (⟨#[]⟩ : ByteArray), .string (⟨#[]⟩ : ByteArray), .slice none 0 0]) (t := 26) ?hr ?_; (case hd => rfl); (case hg => rfl); (case hr => first | (go_simp; done) | (go_simp; rfl)); intro gq hgq wq hbox hbu; have BQ0 := Aside0.mk hbox; have HSq := Aside0.mk hbu; have GQO := Aside0.mk (show wo.heap.size ≤ gq by rw [hgq]; exact Nat.le_refl _); have GQ := Aside0.mk (show w.heap.size ≤ gq by rw [hgq]; exact HBo.out.size); have GNQ := Aside0.mk (show gn ≠ gq by rw [hgq]; exact Nat.ne_of_lt (blk_lt BNo.out)); have GBQ := Aside0.mk (show gb_ ≠ gq by rw [hgq]; exact Nat.ne_of_lt (blk_lt BKo.out)); clear hgq hbox hbu) | ((with_reducible refine gate_store (p := 25) rfl ?_); refine XBox.storeL_ rfl rfl 26 rfl gq rfl _ #[.int .u8 a0_0, .int .u8 a0_1, .int .u8 a0_2, .int .u8 a0_3, .int .u32 a0_4, .int .u16 a0_5, .int .u16 a0_6, .int .u32 a0_7, .int .u32 a0_8, .int .u32 a0_9, .int .u32 a0_10, .string a0_11, .string a0_12, .string a0_13, .slice A0_14 l0_14.length c0_14] rfl BQ0.out hi26 (Eq.refl 15) (by simp [Value.oneCell']) ?_; intro ws hw1 hw2 hw3; have BQ := Aside0.mk hw1; have HSs := Aside0.mk (HSq.out.trans (hw2 _ GQO.out)); have HBs := Aside0.mk (HBo.out.trans ((HSq.out.trans (hw2 _ GQO.out)).mono HBo.out.size)); have BNs := Aside0.mk (blk_below BNo.out (HSq.out.trans (hw2 _ GQO.out))); have BKs := Aside0.mk (blk_below BKo.out (HSq.out.trans (hw2 _ GQO.out))); have hq14 := (blk_cell hw1 14).trans rfl; have fq14 := blk_frozen hw1 14; clear hw1 hw2 hw3))
            have BQ1 := Aside0.mk (blk_put BQ.out 14 (.slice Ao lw.length co) rfl)
            have BN1 := Aside0.mk (blk_far BNs.out (p := ⟨gq, 14, none⟩) GNQ.out (.slice Ao lw.length co))
            have BK1_ := Aside0.mk (blk_far BKs.out (p := ⟨gq, 14, none⟩) GBQ.out (.slice Ao lw.length co))
            have HB1_ := Aside0.mk (show Below w.heap.size w (ws.setCell ⟨gq, 14, none⟩ (.slice Ao lw.length co)) from below_set HBs.out GQ.out)
            have HS1_ := Aside0.mk (show Below wo.heap.size wo (ws.setCell ⟨gq, 14, none⟩ (.slice Ao lw.length co)) from below_set HSs.out GQO.out)
            generalize ws.setCell ⟨gq, 14, none⟩ (.slice Ao lw.length co) = wx at BQ1 BN1 BK1_ HB1_ HS1_ ⊢
            clear BQ BNs BKs HBs HSs BNo BKo HBo
            have hfd := fun (v : Value) (W : World) => run_file zH zN zF v W
            go_upto_region 41 with (go_at_call 10; refine (wire4_Blank.calls 0 0 0 0 0 0 0 0 0 0 0 zH zN zF [] _ HBL.out).mono ?_; rintro e wb1 ⟨vb1, rfl, _, hbb⟩; have BQb_1 := Aside0.mk (blk_below BQ1.out hbb); have BNb_1 := Aside0.mk (blk_below BN1.out hbb); have BKb_1 := Aside0.mk (blk_below BK1_.out hbb); have HBb_1 := Aside0.mk (below_step HB1_.out hbb); have HSb_1 := Aside0.mk (below_step HS1_.out hbb); have hqb_1 := (blk_cell BQb_1.out 13).trans rfl; have fqb_1 := blk_frozen BQb_1.out 13; clear hbb)
            clear hfd
            have BQc_1 := Aside0.mk (blk_put BQb_1.out 13 (.string zF) rfl)
            have BNc_1 := Aside0.mk (blk_far BNb_1.out (p := ⟨gq, 13, none⟩) GNQ.out (.string zF))
            have BKc_1 := Aside0.mk (blk_far BKb_1.out (p := ⟨gq, 13, none⟩) GBQ.out (.string zF))
            have HBc_1 := Aside0.mk (show Below w.heap.size w (wb1.setCell ⟨gq, 13, none⟩ (.string zF)) from below_set HBb_1.out GQ.out)
            have HSc_1 := Aside0.mk (show Below wo.heap.size wo (wb1.setCell ⟨gq, 13, none⟩ (.string zF)) from below_set HSb_1.out GQO.out)
            generalize wb1.setCell ⟨gq, 13, none⟩ (.string zF) = wc1 at BQc_1 BNc_1 BKc_1 HBc_1 HSc_1 ⊢
            clear BQ1 BN1 BK1_ HB1_ HS1_ BQb_1 BNb_1 BKb_1 HBb_1 HSb_1 hqb_1 fqb_1

            clear cl1 cl2 cl3 cl4 cl5 cl6 a1 a2 a3 b1 b2 b3
            go_wp2_with (first | ((with_reducible refine gate_dst (N := 194) rfl ?_); refine XBox.loadL_ 194 rfl rfl 26 rfl gn rfl _ BNc_1.out hu26 rfl hi26 ?_; simp only [Act.put, List.setIfInBounds_toArray, List.set_cons_zero, List.set_cons_succ]) | ((with_reducible refine gate_dst (N := 195) rfl ?_); refine XBox.loadL_ 195 rfl rfl 26 rfl gq rfl _ BQc_1.out hu26 rfl hi26 ?_; simp only [Act.put, List.setIfInBounds_toArray, List.set_cons_zero, List.set_cons_succ]) | (go_at_call 9; refine (tenancylaw14_same.calls k n0 n1 n2 n3 n4 n5 n6 n7 n8 n9 n10 n11 n12 n13 An cn ln a0_0 a0_1 a0_2 a0_3 a0_4 a0_5 a0_6 a0_7 a0_8 a0_9 a0_10 a0_11 a0_12 zF Ao co lw true _ (Kd.C_below (Kd.C_below HCN.out HSo.out) HSc_1.out) HLN.out (Kd.C_below HCO.out HSc_1.out) HLO.out HSM.out).mono ?_; rintro e we ⟨rfl, hbe⟩; have HE := Aside0.mk hbe; have HBe := Aside0.mk (below_step HBc_1.out hbe); have BKx := BKc_1; clear hbe))
            have BKe := Aside0.mk (blk_below BKx.out HE.out)
            go_roundg (4 - (1 + 1))
            case measure => have := HHK.out; omega
            case rel => exact ⟨2, ⟨by omega, by omega, Nat.le_refl _⟩, rfl, BKe, HBe⟩
    case inr.inr.inl =>
      rw [show ((2 : Nat) : Int) = 2 from rfl]
      have e1 : (240 ≤ es.size) = True := eq_true HSZ.out.2.2.1.1
      have e2 : ((240 : Int) ≤ (es.size : Int)) = True := eq_true (by have := HSZ.out.2.2.1.1; omega)
      have hcv := print_bytes (P := Try.prog) 9 39 5 Try.underlying9 Try.underlying39 Try.underlying5 (es.extract 0 240) wr
      go_upto_region 14 with fail
      clear hcv e1 e2
      have BY := Aside0.mk (XByR.ByR.new wr 5 (es.extract 0 240))
      have HBy := Aside0.mk (below_step HBr.out (bytes_below (Below.refl _ _) (Nat.le_refl _) 5 (es.extract 0 240)))
      have BKy := Aside0.mk (blk_below BKr.out (bytes_below (Below.refl _ _) (Nat.le_refl _) 5 (es.extract 0 240)))
      have GY := Aside0.mk (show w.heap.size ≤ wr.heap.size from HBr.out.size)
      have GNE := Aside0.mk (show gb_ ≠ wr.heap.size from Nat.ne_of_lt (blk_lt BKr.out))
      have hz0 : (es.extract 0 240).size = 240 := by rw [ByteArray.size_extract]; have := HSZ.out.2.2.1.1; omega
      generalize grownCap wr 240 0 5 = cc at *
      generalize Lib.bytesWorld wr 5 (es.extract 0 240) = wy at BY HBy BKy ⊢
      generalize wr.heap.size = gy at BY GY GNE ⊢
      have hcv2 := run_convert_bytes_arg (P := Try.prog) (wy.alloc (.cells #[.int .u8 2] 5)) 39 5 Try.underlying39 Try.underlying5 wy.heap.size 0 1 1 [2] rfl (fun i hi => by obtain rfl : i = 0 := (by omega); exact (blk_cell (blk_new wy _) 0).trans rfl) 9 Try.underlying9
      go_upto_region 25 with fail
      clear hcv2
      have BYz := Aside0.mk (XByR.ByR.below BY.out (below_alloc (Below.refl _ wy) (.cells #[.int .u8 2] 5)))
      have HBz := Aside0.mk (below_alloc HBy.out (.cells #[.int .u8 2] 5))
      have BKz := Aside0.mk (blk_alloc BKy.out (.cells #[.int .u8 2] 5))
      generalize wy.alloc (.cells #[.int .u8 2] 5) = wz at BYz HBz BKz ⊢
      have HHK := HH
      clear BY HBy BKy BKr HBr HH
      have hz0 : (es.extract 0 240).size = 240 := by first | (rw [ByteArray.size_extract]; have := HSZ.out.2.2.1.1; omega) | (rw [fillS_size, ByteArray.size_extract]; have := HSZ.out.2.2.1.1; omega)
      have HZ0 := Aside0.mk hz0
      clear hz0
      go_upto_region 26 with fail
      go_loopg [20] 64 (fun gg s20 wr => ∃ q : Nat, Aside0 (q ≤ 64 ∧ 64 - q ≤ gg) ∧ s20 = .int .i64 q ∧ Aside0 (XByR.ByR 5 wr gy (fillS 44 b (es.extract 0 240) q)) ∧ Aside0 (wr.heap[gb_]? = some (.cells #[.int .u8 a0_0, .int .u8 a0_1, .int .u8 a0_2, .int .u8 a0_3, .int .u32 a0_4, .int .u16 a0_5, .int .u16 a0_6, .int .u32 a0_7, .int .u32 a0_8, .int .u32 a0_9, .int .u32 a0_10, .string a0_11, .string a0_12, .string a0_13, .slice A0_14 l0_14.length c0_14] 26 (0, 0))) ∧ Aside0 (Below w.heap.size w wr))
      case atStart => exact ⟨0, ⟨by omega, by omega⟩, rfl, BYz, BKz, HBz⟩
      case round =>
        clear BYz BKz HBz
        obtain ⟨q, HQ, rfl, BYq, BKq, HBq⟩ := hrel
        by_cases hq : q < 64
        · obtain ⟨kk, hkk⟩ : ∃ kk : Nat, kk = 44 + q := ⟨_, rfl⟩
          have hkz : kk < (fillS 44 b (es.extract 0 240) q).size := by rw [fillS_size, HZ0.out]; omega
          have hw1 : wrap64 (44 + (q : Int)) = (kk : Int) := by unfold wrap64; omega
          have hw0 : (44 + (q : Int)) = (kk : Int) := by omega
          have hqb : q ≤ 63 := by omega
          have hkb : kk ≤ 239 := by omega
          have hk1 : (kk < 240) = True := eq_true (by omega)
          have hk2 : ((kk : Int) < 240) = True := eq_true (by omega)
          have hk3 : ((0 : Int) ≤ (kk : Int)) = True := eq_true (by omega)
          have hq1 : ((q : Int) < 64) = True := eq_true (by omega)
          have hq2 : (q < 64) = True := eq_true hq
          have hck := BYq.out.cell kk hkz
          have hfk := BYq.out.frozen kk hkz
          have BYp := Aside0.mk (BYq.out.set kk hkz 0 (by decide))
          have hkz1 : kk < (XByR.setB (fillS 44 b (es.extract 0 240) q) kk 0).size := by rw [XByR.size_setB]; exact hkz
          have hck1 := BYp.out.cell kk hkz1
          have hfk1 := BYp.out.frozen kk hkz1
          have HKK := Aside0.mk hkk
          have HKZ1 := Aside0.mk hkz1
          have HBp := Aside0.mk (show Below w.heap.size w (wr.setCell ⟨gy, kk, none⟩ (.int .u8 0)) from below_set HBq.out GY.out)
          clear hkk hkz hkz1
          by_cases hqa : q < b.size
          · have hqa1 : (q < b.size) = True := eq_true hqa
            have hqa2 : ((q : Int) < (b.size : Int)) = True := eq_true (by omega)
            have HQA := Aside0.mk hqa
            clear hqa
            go_wp2
            have hbt := bt_get b q HQA.out
            rw [← hbt]
            have hset := BYp.out.set kk HKZ1.out (bt b (q : Int)) (bt_range b q HQA.out)
            have hfl : fillS 44 b (es.extract 0 240) (q + 1) = XByR.setB (XByR.setB (fillS 44 b (es.extract 0 240) q) kk 0) kk (bt b (q : Int)) := by rw [fillS, if_pos HQA.out, HKK.out]
            have BYn := Aside0.mk (show XByR.ByR 5 _ gy (fillS 44 b (es.extract 0 240) (q + 1)) by rw [hfl]; exact hset)
            have BKn := Aside0.mk (blk_far (blk_far BKq.out (p := ⟨gy, kk, none⟩) GNE.out (.int .u8 0)) (p := ⟨gy, kk, none⟩) GNE.out (.int .u8 (bt b (q : Int))))
            have HBn := Aside0.mk (show Below w.heap.size w ((wr.setCell ⟨gy, kk, none⟩ (.int .u8 0)).setCell ⟨gy, kk, none⟩ (.int .u8 (bt b (q : Int)))) from below_set HBp.out GY.out)
            go_roundg (64 - (q + 1))
            case measure => have := HQ.out; omega
            case rel => exact ⟨q + 1, ⟨by omega, Nat.le_refl _⟩, rfl, BYn, BKn, HBn⟩
          · have hqa1 : (q < b.size) = False := eq_false hqa
            have hqa2 : ((q : Int) < (b.size : Int)) = False := eq_false (by omega)
            have HQA := Aside0.mk hqa
            clear hqa
            go_wp2
            have hfl : fillS 44 b (es.extract 0 240) (q + 1) = XByR.setB (fillS 44 b (es.extract 0 240) q) kk 0 := by rw [fillS, if_neg HQA.out, HKK.out]
            have BYn := Aside0.mk (show XByR.ByR 5 (wr.setCell ⟨gy, kk, none⟩ (.int .u8 0)) gy (fillS 44 b (es.extract 0 240) (q + 1)) by rw [hfl]; exact BYp.out)
            have BKn := Aside0.mk (blk_far BKq.out (p := ⟨gy, kk, none⟩) GNE.out (.int .u8 0))
            go_roundg (64 - (q + 1))
            case measure => have := HQ.out; omega
            case rel => exact ⟨q + 1, ⟨by omega, Nat.le_refl _⟩, rfl, BYn, BKn, HBp⟩
        · obtain rfl : q = 64 := by have := HQ.out; omega
          rw [show ((64 : Nat) : Int) = 64 from rfl]
          go_upto_region 31 with fail
          clear HQ
          go_upto_region 32 with fail
          clear HZ0
          obtain ⟨tt, htt⟩ : ∃ tt, tt = fillS 44 b ((es.extract 0 240)) 64 := ⟨_, rfl⟩
          have htz : tt.size = 240 := by rw [htt]; repeat rw [fillS_size]
                                         rw [ByteArray.size_extract]; have := HSZ.out.2.2.1.1; omega
          have BYf := Aside0.mk (show XByR.ByR 5 wr gy tt by rw [htt]; exact BYq.out)
          obtain ⟨n0, n1, n2, n3, n4, n5, n6, n7, n8, n9, n10, n11, n12, n13, ln, e1, lp, e2, hdec, hpar, hcase⟩ := HW2.out
          rw [HAX.out, ← htt] at hdec
          rw [HAX.out, HNB.out] at hpar
          have HDEC := Aside0.mk hdec
          have HPAR := Aside0.mk hpar
          have HCASE := Aside0.mk hcase
          have hcv3 := XByR.ByR.text BYf.out 39 9 Try.underlying39 Try.underlying5 Try.underlying9 cc
          rw [htz] at hcv3
          have cl7 : (9223372036854775807 < tt.size + (ax.size + 2 + (strOfNums [2]).size + 1)) = False := eq_false (by have := HAZ.out; rw [htz, show (strOfNums [2]).size = 1 from rfl]; omega)
          have cl8 : (9223372036854775807 < 240 + (ax.size + 2 + (strOfNums [2]).size + 1)) = False := eq_false (by have := HAZ.out; rw [show (strOfNums [2]).size = 1 from rfl]; omega)
          clear hdec hpar hcase htt BYq
          go_upto_region 33 with (first | (go_at_call 16; refine (wire4_Decode.calls k _ n0 n1 n2 n3 n4 n5 n6 n7 n8 n9 n10 n11 n12 n13 ln e1 _ HDEC.out).mono ?_; rintro e wd ⟨v14, rfl, hor, hbd⟩; obtain ⟨An, cn, rfl, hln, hCn⟩ := Kd.R_reads hor; have HLN := Aside0.mk hln; have HCN := Aside0.mk hCn; have HBd := Aside0.mk (below_step HBq.out hbd); have BKd := Aside0.mk (blk_below BKq.out hbd); clear hor hbd hln hCn) | ((with_reducible refine gate_dst (N := 21) rfl ?_); refine box_event ?hg (N := 21) ?hd (cs := #[.int .u8 0, .int .u8 0, .int .u8 0, .int .u8 0, .int .u32 0, .int .u16 0, .int .u16 0, .int .u32 0, .int .u32 0, .int .u32 0, .int .u32 0, .string (⟨#[]⟩ : ByteArray), .string (⟨#[]⟩ : ByteArray), .string (⟨#[]⟩ : ByteArray), .slice none 0 0]) (t := 26) ?hr ?_; (case hd => rfl); (case hg => rfl); (case hr => first | (go_simp; done) | (go_simp; rfl)); intro gn hgn wu hbox hbu; have BN0 := Aside0.mk hbox; have HBu := Aside0.mk (below_step HBd.out hbu); have HSu := Aside0.mk hbu; have GN := Aside0.mk (show wd.heap.size ≤ gn by rw [hgn]; exact Nat.le_refl _); clear hgn hbox hbu) | ((with_reducible refine gate_store (p := 21) rfl ?_); refine XBox.storeL_ rfl rfl 26 rfl gn rfl _ #[.int .u8 n0, .int .u8 n1, .int .u8 n2, .int .u8 n3, .int .u32 n4, .int .u16 n5, .int .u16 n6, .int .u32 n7, .int .u32 n8, .int .u32 n9, .int .u32 n10, .string n11, .string n12, .string n13, .slice An ln.length cn] rfl BN0.out hi26 (Eq.refl 15) (by simp [Value.oneCell']) ?_; intro wn hw1 hw2 hw3; have BN := Aside0.mk hw1; have HSn := Aside0.mk (HSu.out.trans (hw2 _ GN.out)); have HBn := Aside0.mk (HBd.out.trans ((HSu.out.trans (hw2 _ GN.out)).mono HBd.out.size)); clear hw1 hw2 hw3))
          have BKn := Aside0.mk (blk_below BKd.out HSn.out)
          clear hcv3 cl7 cl8 BYf BKq HBq BN0 HSu HBu
          go_upto_region 34 with (go_at_call 19; refine (opt4_Parse.calls k _ 1 [ax ++ b.extract 0 nb] lp e2 _ (C_one_string _ ((blk_cell (blk_new wn _) 0).trans rfl)) (Nat.le_refl 1) HPAR.out).mono ?_; rintro e wp ⟨vp, rfl, hor, hbp⟩; obtain ⟨Ap, cp, rfl, hlp, hCp⟩ := Kd.R_reads hor; have HLP := Aside0.mk hlp; have HCP := Aside0.mk hCp; have HBp := Aside0.mk (below_step (below_alloc HBn.out _) hbp); have HSp := Aside0.mk (below_step (below_alloc HSn.out _) hbp); have BNp := Aside0.mk (blk_below (blk_alloc BN.out _) hbp); have BKp := Aside0.mk (blk_below (blk_alloc BKn.out _) hbp); clear hor hbp hlp hCp)
          clear HPAR HDEC
          rcases HCASE.out with ⟨hbad, rfl | rfl⟩ | ⟨rfl, rfl, lw, hlw, hsm⟩
          · have he2 : (e2 != 0) = true := by
              rcases hbad with h | h
              · exact absurd h (by decide)
              · exact h
            clear hbad
            go_wp2
            go_ret
            exact ⟨rfl, HBp.out⟩
          · clear hbad
            go_wp2
            go_ret
            exact ⟨rfl, HBp.out⟩
          · have HLW := Aside0.mk hlw
            rw [if_neg (by decide), if_pos trivial] at hsm
            have HSM := Aside0.mk hsm
            clear hlw hsm HCASE
            go_upto_region 39 with (first | (go_at_call 20; refine (opt4_Without.calls Ap cp lp 52 lw _ HCP.out HLP.out HLW.out).mono ?_; rintro e wo ⟨vo, rfl, hor, hbo⟩; obtain ⟨Ao, co, rfl, hlo, hCo⟩ := Kd.R_reads hor; have HLO := Aside0.mk hlo; have HCO := Aside0.mk hCo; have HBo := Aside0.mk (below_step HBp.out hbo); have HSo := Aside0.mk (below_step HSp.out hbo); have BNo := Aside0.mk (blk_below BNp.out hbo); have BKo := Aside0.mk (blk_below BKp.out hbo); clear hor hbo hlo hCo) | ((with_reducible refine gate_dst (N := 180) rfl ?_); refine XBox.loadL_ 180 rfl rfl 26 rfl gb_ rfl _ BKo.out hu26 rfl hi26 ?_; simp only [Act.put, List.setIfInBounds_toArray, List.set_cons_zero, List.set_cons_succ]) | ((with_reducible refine gate_dst (N := 25) rfl ?_); refine box_event ?hg (N := 25) ?hd (cs := #[.int .u8 0, .int .u8 0, .int .u8 0, .int .u8 0, .int .u32 0, .int .u16 0, .int .u16 0, .int .u32 0, .int .u32 0, .int .u32 0, .int .u32 0, .string (⟨#[]⟩ : ByteArray), .string (⟨#[]⟩ : ByteArray), .string (⟨#[]⟩ : ByteArray), .slice none 0 0]) (t := 26) ?hr ?_; (case hd => rfl); (case hg => rfl); (case hr => first | (go_simp; done) | (go_simp; rfl)); intro gq hgq wq hbox hbu; have BQ0 := Aside0.mk hbox; have HSq := Aside0.mk hbu; have GQO := Aside0.mk (show wo.heap.size ≤ gq by rw [hgq]; exact Nat.le_refl _); have GQ := Aside0.mk (show w.heap.size ≤ gq by rw [hgq]; exact HBo.out.size); have GNQ := Aside0.mk (show gn ≠ gq by rw [hgq]; exact Nat.ne_of_lt (blk_lt BNo.out)); have GBQ := Aside0.mk (show gb_ ≠ gq by rw [hgq]; exact Nat.ne_of_lt (blk_lt BKo.out)); clear hgq hbox hbu) | ((with_reducible refine gate_store (p := 25) rfl ?_); refine XBox.storeL_ rfl rfl 26 rfl gq rfl _ #[.int .u8 a0_0, .int .u8 a0_1, .int .u8 a0_2, .int .u8 a0_3, .int .u32 a0_4, .int .u16 a0_5, .int .u16 a0_6, .int .u32 a0_7, .int .u32 a0_8, .int .u32 a0_9, .int .u32 a0_10, .string a0_11, .string a0_12, .string a0_13, .slice A0_14 l0_14.length c0_14] rfl BQ0.out hi26 (Eq.refl 15) (by simp [Value.oneCell']) ?_; intro ws hw1 hw2 hw3; have BQ := Aside0.mk hw1; have HSs := Aside0.mk (HSq.out.trans (hw2 _ GQO.out)); have HBs := Aside0.mk (HBo.out.trans ((HSq.out.trans (hw2 _ GQO.out)).mono HBo.out.size)); have BNs := Aside0.mk (blk_below BNo.out (HSq.out.trans (hw2 _ GQO.out))); have BKs := Aside0.mk (blk_below BKo.out (HSq.out.trans (hw2 _ GQO.out))); have hq14 := (blk_cell hw1 14).trans rfl; have fq14 := blk_frozen hw1 14; clear hw1 hw2 hw3))
            have BQ1 := Aside0.mk (blk_put BQ.out 14 (.slice Ao lw.length co) rfl)
            have BN1 := Aside0.mk (blk_far BNs.out (p := ⟨gq, 14, none⟩) GNQ.out (.slice Ao lw.length co))
            have BK1_ := Aside0.mk (blk_far BKs.out (p := ⟨gq, 14, none⟩) GBQ.out (.slice Ao lw.length co))
            have HB1_ := Aside0.mk (show Below w.heap.size w (ws.setCell ⟨gq, 14, none⟩ (.slice Ao lw.length co)) from below_set HBs.out GQ.out)
            have HS1_ := Aside0.mk (show Below wo.heap.size wo (ws.setCell ⟨gq, 14, none⟩ (.slice Ao lw.length co)) from below_set HSs.out GQO.out)
            generalize ws.setCell ⟨gq, 14, none⟩ (.slice Ao lw.length co) = wx at BQ1 BN1 BK1_ HB1_ HS1_ ⊢
            clear BQ BNs BKs HBs HSs BNo BKo HBo
            have hfd := fun (v : Value) (W : World) => run_name zH zN zF v W
            go_upto_region 43 with (go_at_call 10; refine (wire4_Blank.calls 0 0 0 0 0 0 0 0 0 0 0 zH zN zF [] _ HBL.out).mono ?_; rintro e wb1 ⟨vb1, rfl, _, hbb⟩; have BQb_1 := Aside0.mk (blk_below BQ1.out hbb); have BNb_1 := Aside0.mk (blk_below BN1.out hbb); have BKb_1 := Aside0.mk (blk_below BK1_.out hbb); have HBb_1 := Aside0.mk (below_step HB1_.out hbb); have HSb_1 := Aside0.mk (below_step HS1_.out hbb); have hqb_1 := (blk_cell BQb_1.out 12).trans rfl; have fqb_1 := blk_frozen BQb_1.out 12; clear hbb)
            clear hfd
            have BQc_1 := Aside0.mk (blk_put BQb_1.out 12 (.string zN) rfl)
            have BNc_1 := Aside0.mk (blk_far BNb_1.out (p := ⟨gq, 12, none⟩) GNQ.out (.string zN))
            have BKc_1 := Aside0.mk (blk_far BKb_1.out (p := ⟨gq, 12, none⟩) GBQ.out (.string zN))
            have HBc_1 := Aside0.mk (show Below w.heap.size w (wb1.setCell ⟨gq, 12, none⟩ (.string zN)) from below_set HBb_1.out GQ.out)
            have HSc_1 := Aside0.mk (show Below wo.heap.size wo (wb1.setCell ⟨gq, 12, none⟩ (.string zN)) from below_set HSb_1.out GQO.out)
            generalize wb1.setCell ⟨gq, 12, none⟩ (.string zN) = wc1 at BQc_1 BNc_1 BKc_1 HBc_1 HSc_1 ⊢
            clear BQ1 BN1 BK1_ HB1_ HS1_ BQb_1 BNb_1 BKb_1 HBb_1 HSb_1 hqb_1 fqb_1

            clear cl1 cl2 cl3 cl4 cl5 cl6 a1 a2 a3 b1 b2 b3
            go_wp2_with (first | ((with_reducible refine gate_dst (N := 194) rfl ?_); refine XBox.loadL_ 194 rfl rfl 26 rfl gn rfl _ BNc_1.out hu26 rfl hi26 ?_; simp only [Act.put, List.setIfInBounds_toArray, List.set_cons_zero, List.set_cons_succ]) | ((with_reducible refine gate_dst (N := 195) rfl ?_); refine XBox.loadL_ 195 rfl rfl 26 rfl gq rfl _ BQc_1.out hu26 rfl hi26 ?_; simp only [Act.put, List.setIfInBounds_toArray, List.set_cons_zero, List.set_cons_succ]) | (go_at_call 9; refine (tenancylaw14_same.calls k n0 n1 n2 n3 n4 n5 n6 n7 n8 n9 n10 n11 n12 n13 An cn ln a0_0 a0_1 a0_2 a0_3 a0_4 a0_5 a0_6 a0_7 a0_8 a0_9 a0_10 a0_11 zN a0_13 Ao co lw true _ (Kd.C_below (Kd.C_below HCN.out HSo.out) HSc_1.out) HLN.out (Kd.C_below HCO.out HSc_1.out) HLO.out HSM.out).mono ?_; rintro e we ⟨rfl, hbe⟩; have HE := Aside0.mk hbe; have HBe := Aside0.mk (below_step HBc_1.out hbe); have BKx := BKc_1; clear hbe))
            have BKe := Aside0.mk (blk_below BKx.out HE.out)
            go_roundg (4 - (2 + 1))
            case measure => have := HHK.out; omega
            case rel => exact ⟨3, ⟨by omega, by omega, Nat.le_refl _⟩, rfl, BKe, HBe⟩
    case inr.inr.inr =>
      rw [show ((3 : Nat) : Int) = 3 from rfl]
      have e1 : (240 ≤ es.size) = True := eq_true HSZ.out.2.2.1.1
      have e2 : ((240 : Int) ≤ (es.size : Int)) = True := eq_true (by have := HSZ.out.2.2.1.1; omega)
      have hcv := print_bytes (P := Try.prog) 9 39 5 Try.underlying9 Try.underlying39 Try.underlying5 (es.extract 0 240) wr
      go_upto_region 14 with fail
      clear hcv e1 e2
      have BY := Aside0.mk (XByR.ByR.new wr 5 (es.extract 0 240))
      have HBy := Aside0.mk (below_step HBr.out (bytes_below (Below.refl _ _) (Nat.le_refl _) 5 (es.extract 0 240)))
      have BKy := Aside0.mk (blk_below BKr.out (bytes_below (Below.refl _ _) (Nat.le_refl _) 5 (es.extract 0 240)))
      have GY := Aside0.mk (show w.heap.size ≤ wr.heap.size from HBr.out.size)
      have GNE := Aside0.mk (show gb_ ≠ wr.heap.size from Nat.ne_of_lt (blk_lt BKr.out))
      have hz0 : (es.extract 0 240).size = 240 := by rw [ByteArray.size_extract]; have := HSZ.out.2.2.1.1; omega
      generalize grownCap wr 240 0 5 = cc at *
      generalize Lib.bytesWorld wr 5 (es.extract 0 240) = wy at BY HBy BKy ⊢
      generalize wr.heap.size = gy at BY GY GNE ⊢
      have hcv2 := run_convert_bytes_arg (P := Try.prog) (wy.alloc (.cells #[.int .u8 3] 5)) 39 5 Try.underlying39 Try.underlying5 wy.heap.size 0 1 1 [3] rfl (fun i hi => by obtain rfl : i = 0 := (by omega); exact (blk_cell (blk_new wy _) 0).trans rfl) 9 Try.underlying9
      go_upto_region 17 with fail
      clear hcv2
      have BYz := Aside0.mk (XByR.ByR.below BY.out (below_alloc (Below.refl _ wy) (.cells #[.int .u8 3] 5)))
      have HBz := Aside0.mk (below_alloc HBy.out (.cells #[.int .u8 3] 5))
      have BKz := Aside0.mk (blk_alloc BKy.out (.cells #[.int .u8 3] 5))
      generalize wy.alloc (.cells #[.int .u8 3] 5) = wz at BYz HBz BKz ⊢
      have HHK := HH
      clear BY HBy BKy BKr HBr HH
      have hz0 : (es.extract 0 240).size = 240 := by first | (rw [ByteArray.size_extract]; have := HSZ.out.2.2.1.1; omega) | (rw [fillS_size, ByteArray.size_extract]; have := HSZ.out.2.2.1.1; omega)
      have HZ0 := Aside0.mk hz0
      clear hz0
      go_upto_region 18 with fail
      go_loopg [19] 128 (fun gg s19 wr => ∃ q : Nat, Aside0 (q ≤ 128 ∧ 128 - q ≤ gg) ∧ s19 = .int .i64 q ∧ Aside0 (XByR.ByR 5 wr gy (fillS 108 a (es.extract 0 240) q)) ∧ Aside0 (wr.heap[gb_]? = some (.cells #[.int .u8 a0_0, .int .u8 a0_1, .int .u8 a0_2, .int .u8 a0_3, .int .u32 a0_4, .int .u16 a0_5, .int .u16 a0_6, .int .u32 a0_7, .int .u32 a0_8, .int .u32 a0_9, .int .u32 a0_10, .string a0_11, .string a0_12, .string a0_13, .slice A0_14 l0_14.length c0_14] 26 (0, 0))) ∧ Aside0 (Below w.heap.size w wr))
      case atStart => exact ⟨0, ⟨by omega, by omega⟩, rfl, BYz, BKz, HBz⟩
      case round =>
        clear BYz BKz HBz
        obtain ⟨q, HQ, rfl, BYq, BKq, HBq⟩ := hrel
        by_cases hq : q < 128
        · obtain ⟨kk, hkk⟩ : ∃ kk : Nat, kk = 108 + q := ⟨_, rfl⟩
          have hkz : kk < (fillS 108 a (es.extract 0 240) q).size := by rw [fillS_size, HZ0.out]; omega
          have hw1 : wrap64 (108 + (q : Int)) = (kk : Int) := by unfold wrap64; omega
          have hw0 : (108 + (q : Int)) = (kk : Int) := by omega
          have hqb : q ≤ 127 := by omega
          have hkb : kk ≤ 239 := by omega
          have hk1 : (kk < 240) = True := eq_true (by omega)
          have hk2 : ((kk : Int) < 240) = True := eq_true (by omega)
          have hk3 : ((0 : Int) ≤ (kk : Int)) = True := eq_true (by omega)
          have hq1 : ((q : Int) < 128) = True := eq_true (by omega)
          have hq2 : (q < 128) = True := eq_true hq
          have hck := BYq.out.cell kk hkz
          have hfk := BYq.out.frozen kk hkz
          have BYp := Aside0.mk (BYq.out.set kk hkz 0 (by decide))
          have hkz1 : kk < (XByR.setB (fillS 108 a (es.extract 0 240) q) kk 0).size := by rw [XByR.size_setB]; exact hkz
          have hck1 := BYp.out.cell kk hkz1
          have hfk1 := BYp.out.frozen kk hkz1
          have HKK := Aside0.mk hkk
          have HKZ1 := Aside0.mk hkz1
          have HBp := Aside0.mk (show Below w.heap.size w (wr.setCell ⟨gy, kk, none⟩ (.int .u8 0)) from below_set HBq.out GY.out)
          clear hkk hkz hkz1
          by_cases hqa : q < a.size
          · have hqa1 : (q < a.size) = True := eq_true hqa
            have hqa2 : ((q : Int) < (a.size : Int)) = True := eq_true (by omega)
            have HQA := Aside0.mk hqa
            clear hqa
            go_wp2
            have hbt := bt_get a q HQA.out
            rw [← hbt]
            have hset := BYp.out.set kk HKZ1.out (bt a (q : Int)) (bt_range a q HQA.out)
            have hfl : fillS 108 a (es.extract 0 240) (q + 1) = XByR.setB (XByR.setB (fillS 108 a (es.extract 0 240) q) kk 0) kk (bt a (q : Int)) := by rw [fillS, if_pos HQA.out, HKK.out]
            have BYn := Aside0.mk (show XByR.ByR 5 _ gy (fillS 108 a (es.extract 0 240) (q + 1)) by rw [hfl]; exact hset)
            have BKn := Aside0.mk (blk_far (blk_far BKq.out (p := ⟨gy, kk, none⟩) GNE.out (.int .u8 0)) (p := ⟨gy, kk, none⟩) GNE.out (.int .u8 (bt a (q : Int))))
            have HBn := Aside0.mk (show Below w.heap.size w ((wr.setCell ⟨gy, kk, none⟩ (.int .u8 0)).setCell ⟨gy, kk, none⟩ (.int .u8 (bt a (q : Int)))) from below_set HBp.out GY.out)
            go_roundg (128 - (q + 1))
            case measure => have := HQ.out; omega
            case rel => exact ⟨q + 1, ⟨by omega, Nat.le_refl _⟩, rfl, BYn, BKn, HBn⟩
          · have hqa1 : (q < a.size) = False := eq_false hqa
            have hqa2 : ((q : Int) < (a.size : Int)) = False := eq_false (by omega)
            have HQA := Aside0.mk hqa
            clear hqa
            go_wp2
            have hfl : fillS 108 a (es.extract 0 240) (q + 1) = XByR.setB (fillS 108 a (es.extract 0 240) q) kk 0 := by rw [fillS, if_neg HQA.out, HKK.out]
            have BYn := Aside0.mk (show XByR.ByR 5 (wr.setCell ⟨gy, kk, none⟩ (.int .u8 0)) gy (fillS 108 a (es.extract 0 240) (q + 1)) by rw [hfl]; exact BYp.out)
            have BKn := Aside0.mk (blk_far BKq.out (p := ⟨gy, kk, none⟩) GNE.out (.int .u8 0))
            go_roundg (128 - (q + 1))
            case measure => have := HQ.out; omega
            case rel => exact ⟨q + 1, ⟨by omega, Nat.le_refl _⟩, rfl, BYn, BKn, HBp⟩
        · obtain rfl : q = 128 := by have := HQ.out; omega
          rw [show ((128 : Nat) : Int) = 128 from rfl]
          go_upto_region 23 with fail
          clear HQ
          go_upto_region 25 with fail
          have BYz := BYq
          have BKz := BKq
          have HBz := HBq
          clear BYq BKq HBq HZ0
          have hz0 : (fillS 108 a (es.extract 0 240) 128).size = 240 := by first | (rw [ByteArray.size_extract]; have := HSZ.out.2.2.1.1; omega) | (rw [fillS_size, ByteArray.size_extract]; have := HSZ.out.2.2.1.1; omega)
          have HZ0 := Aside0.mk hz0
          clear hz0
          go_upto_region 26 with fail
          go_loopg [20] 64 (fun gg s20 wr => ∃ q : Nat, Aside0 (q ≤ 64 ∧ 64 - q ≤ gg) ∧ s20 = .int .i64 q ∧ Aside0 (XByR.ByR 5 wr gy (fillS 44 b (fillS 108 a (es.extract 0 240) 128) q)) ∧ Aside0 (wr.heap[gb_]? = some (.cells #[.int .u8 a0_0, .int .u8 a0_1, .int .u8 a0_2, .int .u8 a0_3, .int .u32 a0_4, .int .u16 a0_5, .int .u16 a0_6, .int .u32 a0_7, .int .u32 a0_8, .int .u32 a0_9, .int .u32 a0_10, .string a0_11, .string a0_12, .string a0_13, .slice A0_14 l0_14.length c0_14] 26 (0, 0))) ∧ Aside0 (Below w.heap.size w wr))
          case atStart => exact ⟨0, ⟨by omega, by omega⟩, rfl, BYz, BKz, HBz⟩
          case round =>
            clear BYz BKz HBz
            obtain ⟨q, HQ, rfl, BYq, BKq, HBq⟩ := hrel
            by_cases hq : q < 64
            · obtain ⟨kk, hkk⟩ : ∃ kk : Nat, kk = 44 + q := ⟨_, rfl⟩
              have hkz : kk < (fillS 44 b (fillS 108 a (es.extract 0 240) 128) q).size := by rw [fillS_size, HZ0.out]; omega
              have hw1 : wrap64 (44 + (q : Int)) = (kk : Int) := by unfold wrap64; omega
              have hw0 : (44 + (q : Int)) = (kk : Int) := by omega
              have hqb : q ≤ 63 := by omega
              have hkb : kk ≤ 239 := by omega
              have hk1 : (kk < 240) = True := eq_true (by omega)
              have hk2 : ((kk : Int) < 240) = True := eq_true (by omega)
              have hk3 : ((0 : Int) ≤ (kk : Int)) = True := eq_true (by omega)
              have hq1 : ((q : Int) < 64) = True := eq_true (by omega)
              have hq2 : (q < 64) = True := eq_true hq
              have hck := BYq.out.cell kk hkz
              have hfk := BYq.out.frozen kk hkz
              have BYp := Aside0.mk (BYq.out.set kk hkz 0 (by decide))
              have hkz1 : kk < (XByR.setB (fillS 44 b (fillS 108 a (es.extract 0 240) 128) q) kk 0).size := by rw [XByR.size_setB]; exact hkz
              have hck1 := BYp.out.cell kk hkz1
              have hfk1 := BYp.out.frozen kk hkz1
              have HKK := Aside0.mk hkk
              have HKZ1 := Aside0.mk hkz1
              have HBp := Aside0.mk (show Below w.heap.size w (wr.setCell ⟨gy, kk, none⟩ (.int .u8 0)) from below_set HBq.out GY.out)
              clear hkk hkz hkz1
              by_cases hqa : q < b.size
              · have hqa1 : (q < b.size) = True := eq_true hqa
                have hqa2 : ((q : Int) < (b.size : Int)) = True := eq_true (by omega)
                have HQA := Aside0.mk hqa
                clear hqa
                go_wp2
                have hbt := bt_get b q HQA.out
                rw [← hbt]
                have hset := BYp.out.set kk HKZ1.out (bt b (q : Int)) (bt_range b q HQA.out)
                have hfl : fillS 44 b (fillS 108 a (es.extract 0 240) 128) (q + 1) = XByR.setB (XByR.setB (fillS 44 b (fillS 108 a (es.extract 0 240) 128) q) kk 0) kk (bt b (q : Int)) := by rw [fillS, if_pos HQA.out, HKK.out]
                have BYn := Aside0.mk (show XByR.ByR 5 _ gy (fillS 44 b (fillS 108 a (es.extract 0 240) 128) (q + 1)) by rw [hfl]; exact hset)
                have BKn := Aside0.mk (blk_far (blk_far BKq.out (p := ⟨gy, kk, none⟩) GNE.out (.int .u8 0)) (p := ⟨gy, kk, none⟩) GNE.out (.int .u8 (bt b (q : Int))))
                have HBn := Aside0.mk (show Below w.heap.size w ((wr.setCell ⟨gy, kk, none⟩ (.int .u8 0)).setCell ⟨gy, kk, none⟩ (.int .u8 (bt b (q : Int)))) from below_set HBp.out GY.out)
                go_roundg (64 - (q + 1))
                case measure => have := HQ.out; omega
                case rel => exact ⟨q + 1, ⟨by omega, Nat.le_refl _⟩, rfl, BYn, BKn, HBn⟩
              · have hqa1 : (q < b.size) = False := eq_false hqa
                have hqa2 : ((q : Int) < (b.size : Int)) = False := eq_false (by omega)
                have HQA := Aside0.mk hqa
                clear hqa
                go_wp2
                have hfl : fillS 44 b (fillS 108 a (es.extract 0 240) 128) (q + 1) = XByR.setB (fillS 44 b (fillS 108 a (es.extract 0 240) 128) q) kk 0 := by rw [fillS, if_neg HQA.out, HKK.out]
                have BYn := Aside0.mk (show XByR.ByR 5 (wr.setCell ⟨gy, kk, none⟩ (.int .u8 0)) gy (fillS 44 b (fillS 108 a (es.extract 0 240) 128) (q + 1)) by rw [hfl]; exact BYp.out)
                have BKn := Aside0.mk (blk_far BKq.out (p := ⟨gy, kk, none⟩) GNE.out (.int .u8 0))
                go_roundg (64 - (q + 1))
                case measure => have := HQ.out; omega
                case rel => exact ⟨q + 1, ⟨by omega, Nat.le_refl _⟩, rfl, BYn, BKn, HBp⟩
            · obtain rfl : q = 64 := by have := HQ.out; omega
              rw [show ((64 : Nat) : Int) = 64 from rfl]
              go_upto_region 31 with fail
              clear HQ
              go_upto_region 32 with fail
              clear HZ0
              obtain ⟨tt, htt⟩ : ∃ tt, tt = fillS 44 b (fillS 108 a ((es.extract 0 240)) 128) 64 := ⟨_, rfl⟩
              have htz : tt.size = 240 := by rw [htt]; repeat rw [fillS_size]
                                             rw [ByteArray.size_extract]; have := HSZ.out.2.2.1.1; omega
              have BYf := Aside0.mk (show XByR.ByR 5 wr gy tt by rw [htt]; exact BYq.out)
              obtain ⟨n0, n1, n2, n3, n4, n5, n6, n7, n8, n9, n10, n11, n12, n13, ln, e1, lp, e2, hdec, hpar, hcase⟩ := HW3.out
              rw [HAX.out, ← htt] at hdec
              rw [HAX.out, HNA.out, HNB.out] at hpar
              have HDEC := Aside0.mk hdec
              have HPAR := Aside0.mk hpar
              have HCASE := Aside0.mk hcase
              have hcv3 := XByR.ByR.text BYf.out 39 9 Try.underlying39 Try.underlying5 Try.underlying9 cc
              rw [htz] at hcv3
              have cl7 : (9223372036854775807 < tt.size + (ax.size + 2 + (strOfNums [3]).size + 1)) = False := eq_false (by have := HAZ.out; rw [htz, show (strOfNums [3]).size = 1 from rfl]; omega)
              have cl8 : (9223372036854775807 < 240 + (ax.size + 2 + (strOfNums [3]).size + 1)) = False := eq_false (by have := HAZ.out; rw [show (strOfNums [3]).size = 1 from rfl]; omega)
              clear hdec hpar hcase htt BYq
              go_upto_region 33 with (first | (go_at_call 16; refine (wire4_Decode.calls k _ n0 n1 n2 n3 n4 n5 n6 n7 n8 n9 n10 n11 n12 n13 ln e1 _ HDEC.out).mono ?_; rintro e wd ⟨v14, rfl, hor, hbd⟩; obtain ⟨An, cn, rfl, hln, hCn⟩ := Kd.R_reads hor; have HLN := Aside0.mk hln; have HCN := Aside0.mk hCn; have HBd := Aside0.mk (below_step HBq.out hbd); have BKd := Aside0.mk (blk_below BKq.out hbd); clear hor hbd hln hCn) | ((with_reducible refine gate_dst (N := 21) rfl ?_); refine box_event ?hg (N := 21) ?hd (cs := #[.int .u8 0, .int .u8 0, .int .u8 0, .int .u8 0, .int .u32 0, .int .u16 0, .int .u16 0, .int .u32 0, .int .u32 0, .int .u32 0, .int .u32 0, .string (⟨#[]⟩ : ByteArray), .string (⟨#[]⟩ : ByteArray), .string (⟨#[]⟩ : ByteArray), .slice none 0 0]) (t := 26) ?hr ?_; (case hd => rfl); (case hg => rfl); (case hr => first | (go_simp; done) | (go_simp; rfl)); intro gn hgn wu hbox hbu; have BN0 := Aside0.mk hbox; have HBu := Aside0.mk (below_step HBd.out hbu); have HSu := Aside0.mk hbu; have GN := Aside0.mk (show wd.heap.size ≤ gn by rw [hgn]; exact Nat.le_refl _); clear hgn hbox hbu) | ((with_reducible refine gate_store (p := 21) rfl ?_); refine XBox.storeL_ rfl rfl 26 rfl gn rfl _ #[.int .u8 n0, .int .u8 n1, .int .u8 n2, .int .u8 n3, .int .u32 n4, .int .u16 n5, .int .u16 n6, .int .u32 n7, .int .u32 n8, .int .u32 n9, .int .u32 n10, .string n11, .string n12, .string n13, .slice An ln.length cn] rfl BN0.out hi26 (Eq.refl 15) (by simp [Value.oneCell']) ?_; intro wn hw1 hw2 hw3; have BN := Aside0.mk hw1; have HSn := Aside0.mk (HSu.out.trans (hw2 _ GN.out)); have HBn := Aside0.mk (HBd.out.trans ((HSu.out.trans (hw2 _ GN.out)).mono HBd.out.size)); clear hw1 hw2 hw3))
              have BKn := Aside0.mk (blk_below BKd.out HSn.out)
              clear hcv3 cl7 cl8 BYf BKq HBq BN0 HSu HBu
              go_upto_region 34 with (go_at_call 19; refine (opt4_Parse.calls k _ 1 [(ax ++ a.extract 0 na) ++ b.extract 0 nb] lp e2 _ (C_one_string _ ((blk_cell (blk_new wn _) 0).trans rfl)) (Nat.le_refl 1) HPAR.out).mono ?_; rintro e wp ⟨vp, rfl, hor, hbp⟩; obtain ⟨Ap, cp, rfl, hlp, hCp⟩ := Kd.R_reads hor; have HLP := Aside0.mk hlp; have HCP := Aside0.mk hCp; have HBp := Aside0.mk (below_step (below_alloc HBn.out _) hbp); have HSp := Aside0.mk (below_step (below_alloc HSn.out _) hbp); have BNp := Aside0.mk (blk_below (blk_alloc BN.out _) hbp); have BKp := Aside0.mk (blk_below (blk_alloc BKn.out _) hbp); clear hor hbp hlp hCp)
              clear HPAR HDEC
              rcases HCASE.out with ⟨hbad, rfl | rfl⟩ | ⟨rfl, rfl, lw, hlw, hsm⟩
              · have he2 : (e2 != 0) = true := by
                  rcases hbad with h | h
                  · exact absurd h (by decide)
                  · exact h
                clear hbad
                go_wp2
                go_ret
                exact ⟨rfl, HBp.out⟩
              · clear hbad
                go_wp2
                go_ret
                exact ⟨rfl, HBp.out⟩
              · have HLW := Aside0.mk hlw
                rw [if_neg (by decide), if_neg (by decide)] at hsm
                have HSM := Aside0.mk hsm
                clear hlw hsm HCASE
                go_upto_region 39 with (first | (go_at_call 20; refine (opt4_Without.calls Ap cp lp 52 lw _ HCP.out HLP.out HLW.out).mono ?_; rintro e wo ⟨vo, rfl, hor, hbo⟩; obtain ⟨Ao, co, rfl, hlo, hCo⟩ := Kd.R_reads hor; have HLO := Aside0.mk hlo; have HCO := Aside0.mk hCo; have HBo := Aside0.mk (below_step HBp.out hbo); have HSo := Aside0.mk (below_step HSp.out hbo); have BNo := Aside0.mk (blk_below BNp.out hbo); have BKo := Aside0.mk (blk_below BKp.out hbo); clear hor hbo hlo hCo) | ((with_reducible refine gate_dst (N := 180) rfl ?_); refine XBox.loadL_ 180 rfl rfl 26 rfl gb_ rfl _ BKo.out hu26 rfl hi26 ?_; simp only [Act.put, List.setIfInBounds_toArray, List.set_cons_zero, List.set_cons_succ]) | ((with_reducible refine gate_dst (N := 25) rfl ?_); refine box_event ?hg (N := 25) ?hd (cs := #[.int .u8 0, .int .u8 0, .int .u8 0, .int .u8 0, .int .u32 0, .int .u16 0, .int .u16 0, .int .u32 0, .int .u32 0, .int .u32 0, .int .u32 0, .string (⟨#[]⟩ : ByteArray), .string (⟨#[]⟩ : ByteArray), .string (⟨#[]⟩ : ByteArray), .slice none 0 0]) (t := 26) ?hr ?_; (case hd => rfl); (case hg => rfl); (case hr => first | (go_simp; done) | (go_simp; rfl)); intro gq hgq wq hbox hbu; have BQ0 := Aside0.mk hbox; have HSq := Aside0.mk hbu; have GQO := Aside0.mk (show wo.heap.size ≤ gq by rw [hgq]; exact Nat.le_refl _); have GQ := Aside0.mk (show w.heap.size ≤ gq by rw [hgq]; exact HBo.out.size); have GNQ := Aside0.mk (show gn ≠ gq by rw [hgq]; exact Nat.ne_of_lt (blk_lt BNo.out)); have GBQ := Aside0.mk (show gb_ ≠ gq by rw [hgq]; exact Nat.ne_of_lt (blk_lt BKo.out)); clear hgq hbox hbu) | ((with_reducible refine gate_store (p := 25) rfl ?_); refine XBox.storeL_ rfl rfl 26 rfl gq rfl _ #[.int .u8 a0_0, .int .u8 a0_1, .int .u8 a0_2, .int .u8 a0_3, .int .u32 a0_4, .int .u16 a0_5, .int .u16 a0_6, .int .u32 a0_7, .int .u32 a0_8, .int .u32 a0_9, .int .u32 a0_10, .string a0_11, .string a0_12, .string a0_13, .slice A0_14 l0_14.length c0_14] rfl BQ0.out hi26 (Eq.refl 15) (by simp [Value.oneCell']) ?_; intro ws hw1 hw2 hw3; have BQ := Aside0.mk hw1; have HSs := Aside0.mk (HSq.out.trans (hw2 _ GQO.out)); have HBs := Aside0.mk (HBo.out.trans ((HSq.out.trans (hw2 _ GQO.out)).mono HBo.out.size)); have BNs := Aside0.mk (blk_below BNo.out (HSq.out.trans (hw2 _ GQO.out))); have BKs := Aside0.mk (blk_below BKo.out (HSq.out.trans (hw2 _ GQO.out))); have hq14 := (blk_cell hw1 14).trans rfl; have fq14 := blk_frozen hw1 14; clear hw1 hw2 hw3))
                have BQ1 := Aside0.mk (blk_put BQ.out 14 (.slice Ao lw.length co) rfl)
                have BN1 := Aside0.mk (blk_far BNs.out (p := ⟨gq, 14, none⟩) GNQ.out (.slice Ao lw.length co))
                have BK1_ := Aside0.mk (blk_far BKs.out (p := ⟨gq, 14, none⟩) GBQ.out (.slice Ao lw.length co))
                have HB1_ := Aside0.mk (show Below w.heap.size w (ws.setCell ⟨gq, 14, none⟩ (.slice Ao lw.length co)) from below_set HBs.out GQ.out)
                have HS1_ := Aside0.mk (show Below wo.heap.size wo (ws.setCell ⟨gq, 14, none⟩ (.slice Ao lw.length co)) from below_set HSs.out GQO.out)
                generalize ws.setCell ⟨gq, 14, none⟩ (.slice Ao lw.length co) = wx at BQ1 BN1 BK1_ HB1_ HS1_ ⊢
                clear BQ BNs BKs HBs HSs BNo BKo HBo
                have hfd := fun (v : Value) (W : World) => run_file zH zN zF v W
                go_upto_region 41 with (go_at_call 10; refine (wire4_Blank.calls 0 0 0 0 0 0 0 0 0 0 0 zH zN zF [] _ HBL.out).mono ?_; rintro e wb1 ⟨vb1, rfl, _, hbb⟩; have BQb_1 := Aside0.mk (blk_below BQ1.out hbb); have BNb_1 := Aside0.mk (blk_below BN1.out hbb); have BKb_1 := Aside0.mk (blk_below BK1_.out hbb); have HBb_1 := Aside0.mk (below_step HB1_.out hbb); have HSb_1 := Aside0.mk (below_step HS1_.out hbb); have hqb_1 := (blk_cell BQb_1.out 13).trans rfl; have fqb_1 := blk_frozen BQb_1.out 13; clear hbb)
                clear hfd
                have BQc_1 := Aside0.mk (blk_put BQb_1.out 13 (.string zF) rfl)
                have BNc_1 := Aside0.mk (blk_far BNb_1.out (p := ⟨gq, 13, none⟩) GNQ.out (.string zF))
                have BKc_1 := Aside0.mk (blk_far BKb_1.out (p := ⟨gq, 13, none⟩) GBQ.out (.string zF))
                have HBc_1 := Aside0.mk (show Below w.heap.size w (wb1.setCell ⟨gq, 13, none⟩ (.string zF)) from below_set HBb_1.out GQ.out)
                have HSc_1 := Aside0.mk (show Below wo.heap.size wo (wb1.setCell ⟨gq, 13, none⟩ (.string zF)) from below_set HSb_1.out GQO.out)
                generalize wb1.setCell ⟨gq, 13, none⟩ (.string zF) = wc1 at BQc_1 BNc_1 BKc_1 HBc_1 HSc_1 ⊢
                clear BQ1 BN1 BK1_ HB1_ HS1_ BQb_1 BNb_1 BKb_1 HBb_1 HSb_1 hqb_1 fqb_1
                have hfd := fun (v : Value) (W : World) => run_name zH zN zF v W
                go_upto_region 43 with (go_at_call 10; refine (wire4_Blank.calls 0 0 0 0 0 0 0 0 0 0 0 zH zN zF [] _ HBL.out).mono ?_; rintro e wb2 ⟨vb2, rfl, _, hbb⟩; have BQb_2 := Aside0.mk (blk_below BQc_1.out hbb); have BNb_2 := Aside0.mk (blk_below BNc_1.out hbb); have BKb_2 := Aside0.mk (blk_below BKc_1.out hbb); have HBb_2 := Aside0.mk (below_step HBc_1.out hbb); have HSb_2 := Aside0.mk (below_step HSc_1.out hbb); have hqb_2 := (blk_cell BQb_2.out 12).trans rfl; have fqb_2 := blk_frozen BQb_2.out 12; clear hbb)
                clear hfd
                have BQc_2 := Aside0.mk (blk_put BQb_2.out 12 (.string zN) rfl)
                have BNc_2 := Aside0.mk (blk_far BNb_2.out (p := ⟨gq, 12, none⟩) GNQ.out (.string zN))
                have BKc_2 := Aside0.mk (blk_far BKb_2.out (p := ⟨gq, 12, none⟩) GBQ.out (.string zN))
                have HBc_2 := Aside0.mk (show Below w.heap.size w (wb2.setCell ⟨gq, 12, none⟩ (.string zN)) from below_set HBb_2.out GQ.out)
                have HSc_2 := Aside0.mk (show Below wo.heap.size wo (wb2.setCell ⟨gq, 12, none⟩ (.string zN)) from below_set HSb_2.out GQO.out)
                generalize wb2.setCell ⟨gq, 12, none⟩ (.string zN) = wc2 at BQc_2 BNc_2 BKc_2 HBc_2 HSc_2 ⊢
                clear BQc_1 BNc_1 BKc_1 HBc_1 HSc_1 BQb_2 BNb_2 BKb_2 HBb_2 HSb_2 hqb_2 fqb_2

                clear cl1 cl2 cl3 cl4 cl5 cl6 a1 a2 a3 b1 b2 b3
                go_wp2_with (first | ((with_reducible refine gate_dst (N := 194) rfl ?_); refine XBox.loadL_ 194 rfl rfl 26 rfl gn rfl _ BNc_2.out hu26 rfl hi26 ?_; simp only [Act.put, List.setIfInBounds_toArray, List.set_cons_zero, List.set_cons_succ]) | ((with_reducible refine gate_dst (N := 195) rfl ?_); refine XBox.loadL_ 195 rfl rfl 26 rfl gq rfl _ BQc_2.out hu26 rfl hi26 ?_; simp only [Act.put, List.setIfInBounds_toArray, List.set_cons_zero, List.set_cons_succ]) | (go_at_call 9; refine (tenancylaw14_same.calls k n0 n1 n2 n3 n4 n5 n6 n7 n8 n9 n10 n11 n12 n13 An cn ln a0_0 a0_1 a0_2 a0_3 a0_4 a0_5 a0_6 a0_7 a0_8 a0_9 a0_10 a0_11 zN zF Ao co lw true _ (Kd.C_below (Kd.C_below HCN.out HSo.out) HSc_2.out) HLN.out (Kd.C_below HCO.out HSc_2.out) HLO.out HSM.out).mono ?_; rintro e we ⟨rfl, hbe⟩; have HE := Aside0.mk hbe; have HBe := Aside0.mk (below_step HBc_2.out hbe); have BKx := BKc_2; clear hbe))
                have BKe := Aside0.mk (blk_below BKx.out HE.out)
                go_roundg (4 - (3 + 1))
                case measure => have := HHK.out; omega
                case rel => exact ⟨4, ⟨by omega, by omega, Nat.le_refl _⟩, rfl, BKe, HBe⟩
end Go.Proofs.Ytdhmlenmnobmfaa.X
