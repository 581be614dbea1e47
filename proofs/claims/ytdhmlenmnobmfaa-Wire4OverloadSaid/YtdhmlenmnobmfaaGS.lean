/- The law Wire4Short walked: that the call returns true where Encode, Decode answer so: the conditions stand in the statements. By hand. -/
import Derived.Test.YtdhmlenmnobmfaaG3
import Derived.Lib.BufferWrite
namespace Go.Proofs.Ytdhmlenmnobmfaa.X
open Go.RowKit Go.Proofs.YtdhmlenmnobmfaaW.PrintWords Go.Proofs.YtdhmlenmnobmfaaW.PrintLast Go.Proofs.YtdhmlenmnobmfaaW.PrintMore
set_option linter.unusedVariables false
set_option linter.unusedSimpArgs false
/-- What Decode tells of an error alone. -/
def DecE (k : Nat) (s : ByteArray) (e : Int) : Prop := ∃ r1 r2 r3 r4 r5 r6 r7 r8 r9 r10 r11 r12 r13 r14 r15, wire4_Decode.f k s = some (r1, r2, r3, r4, r5, r6, r7, r8, r9, r10, r11, r12, r13, r14, r15, e)
theorem dec_e (k : Nat) (s : ByteArray) (e : Int) (w : World) (h : DecE k s e) :
    Calls Try.prog 16 #[.string s] w fun en w' => ∃ c : Array Value, en = .returned (.tuple #[.agg c, .int .i64 e]) ∧ (c.size = 15 ∧ c.all (·.oneCell') = true) ∧ Below w.heap.size w w' := by
  obtain ⟨r1, r2, r3, r4, r5, r6, r7, r8, r9, r10, r11, r12, r13, r14, r15, h⟩ := h
  refine (wire4_Decode.calls k s r1 r2 r3 r4 r5 r6 r7 r8 r9 r10 r11 r12 r13 r14 r15 e w h).mono ?_
  rintro en w' ⟨v, rfl, hor, hb⟩
  obtain ⟨A, c, rfl, _, _⟩ := Kd.R_reads hor
  exact ⟨_, rfl, ⟨rfl, by simp [Value.oneCell']⟩, hb⟩
/-- The block g holds the bytes of s at its head. -/
structure ReadS (W : World) (g : Nat) (s : ByteArray) : Prop where
  at_ : ∀ i, i < s.size → W.cell? ⟨g, i, none⟩ = some (.int .u8 ((bytesOf s).getD i 0))
theorem getD_bytes (s : ByteArray) (i : Nat) (hi : i < s.size) : (bytesOf s).getD i 0 = ((s.data.toList[i]'(by rw [data_length]; exact hi)).toNat : Int) := by
  have hl : i < s.data.toList.length := by rw [data_length]; exact hi
  simp [bytesOf, List.getD_eq_getElem?_getD, List.getElem?_eq_getElem hl]
theorem ReadS.text {W : World} {g : Nat} {s : ByteArray} (h : ReadS W g s) (n c : Nat) (hn : n ≤ s.size) :
    (convert 39 9 (.slice (some ⟨g, 0, none⟩) n c)).run Try.prog W = .ok (.string (s.extract 0 n)) W := by
  have hz : (s.extract 0 n).size = n := by rw [ByteArray.size_extract]; omega
  have := run_convert_bytes_arg (P := Try.prog) W 39 5 Try.underlying39 Try.underlying5 g 0 n c (bytesOf (s.extract 0 n)) (by rw [bytesOf_length, hz]) (fun i hi => by
    rw [Nat.zero_add, h.at_ i (by omega), getD_bytes s i (by omega), getD_bytes (s.extract 0 n) i (by omega)]
    congr 3
    simp [ByteArray.extract, ByteArray.copySlice]) 9 Try.underlying9
  rw [this, XByR.str_bytes]
theorem ReadS.of {e : TypeId} {W : World} {g : Nat} {s : ByteArray} (h : XByR.ByR e W g s) : ReadS W g s := ⟨fun i hi => h.cell i hi⟩
theorem ReadS.below {W W' : World} {g : Nat} {s : ByteArray} (h : ReadS W g s) (hb : Below W.heap.size W W') : ReadS W' g s :=
  ⟨fun i hi => (hb.cell (World.block_lt_of_cell? W _ (h.at_ i hi))).trans (h.at_ i hi)⟩
theorem info5b : (Try.prog.info? 5).map (fun i => (i.zero, i.size, i.bytes)) = some (some (.int .u8 0), 1, 1) := by kernel_rfl
/-- A row of bytes 0. -/
def ZeroRow (n : Nat) (Z : Array Value) : Prop := Z.size = n ∧ ∀ i, i < n → Z[i]? = some (.int .u8 0)
theorem make_long (W : World) (n : Nat) (c : Int) (hc : c = (n : Int)) (hn : n ≤ 100000) : ∃ Z : Array Value, ZeroRow n Z ∧
    (Instr.makeSlice 39 (.int .i64 c) (.int .i64 c)).run Try.prog W = .ok (.slice (some ⟨W.heap.size, 0, none⟩) n n) (W.alloc (.cells Z 5)) := by
  obtain ⟨i, hi, hz, hs, hb⟩ := info_parts info5b
  have h := run_make (P := Try.prog) W 39 5 i (.int .u8 0) Try.underlying39 hi hz .i64 .i64 c c (by omega) (by omega) (by rw [hb]; omega) (by omega)
  rw [hs, show c.toNat = n by omega, Nat.mul_one] at h
  refine ⟨_, ⟨size_madeCells _ _, fun i hi => ?_⟩, h⟩
  have e1 : (Value.int IntKind.u8 0).cells = #[Value.int IntKind.u8 0] := rfl
  simp [madeCells, hi, e1, Nat.mod_one]
def padS (n : Nat) (s : ByteArray) : ByteArray := ⟨(s.data.toList ++ List.replicate (n - s.size) 0).toArray⟩
theorem size_padS (n : Nat) (s : ByteArray) (h : s.size ≤ n) : (padS n s).size = n := by
  show ((s.data.toList ++ List.replicate (n - s.size) 0).toArray).size = _
  have := data_length s
  rw [List.size_toArray, List.length_append, List.length_replicate]; omega
theorem copy_long (W : World) (g n : Nat) (s : ByteArray) (Z : Array Value) (hZ : ZeroRow n Z) (hg : W.heap[g]? = some (.cells Z 5 (0, 0))) (hs : s.size ≤ n) (t : TypeId) :
    ∃ W', (Builtin.copy_ #[39, 9] t #[.slice (some ⟨g, 0, none⟩) n n, .string s]).run Try.prog W = .ok (goInt s.size) W' ∧ ReadS W' g (padS n s) ∧ (∀ m, m ≤ g → Below m W W') := by
  obtain ⟨hzl, hz0⟩ := hZ
  have h := Lib.run_copy_row_string (P := Try.prog) W 39 9 t 5 g 0 n n s Z 5 Try.underlying39 (by kernel_rfl) hg hs (by omega)
  refine ⟨_, h, ⟨fun i hi => ?_⟩, fun m hm => ?_⟩
  · have hd : s.data.toList.length = s.size := data_length s
    rw [size_padS n s hs] at hi
    have hb : (bytesOf (padS n s)) = (s.data.toList ++ List.replicate (n - s.size) 0).map (fun b : UInt8 => (b.toNat : Int)) := rfl
    rw [blk_cell (setRow_heap W g _ _ 5 (0, 0) hg) i, hb, List.getD_eq_getElem?_getD, List.getElem?_map]
    simp only [List.getElem?_toArray, List.take_zero, List.nil_append, Nat.zero_add]
    by_cases hlt : i < s.size
    · rw [List.getElem?_append_left (by rw [show (Lib.byteCells s.data.toList).length = s.size by simp [Lib.byteCells, hd]]; exact hlt), List.getElem?_append_left (by omega), List.getElem?_eq_getElem (l := s.data.toList) (by omega)]
      simp [Lib.byteCells, List.getElem?_eq_getElem, hd, hlt]
    · have e1 : (Lib.byteCells s.data.toList).length = s.size := by simp [Lib.byteCells, hd]
      rw [List.getElem?_append_right (by omega), e1, List.getElem?_append_right (by omega), hd, List.getElem?_drop, show s.size + (i - s.size) = i by omega, Array.getElem?_toList, hz0 i hi, List.getElem?_replicate, if_pos (by omega)]
      rfl
  · refine ⟨rfl, rfl, rfl, by simp [World.setRow], fun k hk => ?_⟩
    simp only [World.setRow]
    rw [Array.getElem?_modify, if_neg (by omega)]
set_option maxHeartbeats 8000000 in
set_option maxRecDepth 100000 in
theorem short_err (k : Nat) (a0_0 : Int) (a0_1 : Int) (a0_2 : Int) (a0_3 : Int) (a0_4 : Int) (a0_5 : Int) (a0_6 : Int) (a0_7 : Int) (a0_8 : Int) (a0_9 : Int) (a0_10 : Int) (a0_11 : ByteArray) (a0_12 : ByteArray) (a0_13 : ByteArray) (A0_14 : Option Addr) (c0_14 : Nat) (l0_14 : List S47) (cut at' : Int) (es : ByteArray) (ee : Int) (w : World) (hr0_14 : Kd.C k47 w A0_14 l0_14.length l0_14) (hc0_14 : l0_14.length ≤ c0_14)
    (haw : tenancylaw14_awake.f k = some true) (hen : wire4_Encode.f k a0_0 a0_1 a0_2 a0_3 a0_4 a0_5 a0_6 a0_7 a0_8 a0_9 a0_10 a0_11 a0_12 a0_13 l0_14 = some (es, ee)) (he : (ee != 0) = true) :
    Calls Try.prog 7 #[.agg #[.int .u8 a0_0, .int .u8 a0_1, .int .u8 a0_2, .int .u8 a0_3, .int .u32 a0_4, .int .u16 a0_5, .int .u16 a0_6, .int .u32 a0_7, .int .u32 a0_8, .int .u32 a0_9, .int .u32 a0_10, .string a0_11, .string a0_12, .string a0_13, .slice A0_14 l0_14.length c0_14], .int .i64 cut, .int .i64 at'] w fun e w' => e = .returned (.bool true) ∧ Below w.heap.size w w' := by
  have hu26 := Try.underlying26
  have hi26 : (Try.prog.info? 26).map (·.size) = some 15 := by kernel_rfl
  have HR := Aside0.mk hr0_14
  have HC := Aside0.mk hc0_14
  have HAW := Aside0.mk haw
  have HEN := Aside0.mk hen
  clear hr0_14 hc0_14 haw hen
  go_enter Try.func7, Try.ntmps7
  go_wp2_with (first
    | ((with_reducible refine gate_dst (N := 3) rfl ?_); (try (refine gate_guard (by rfl) ?_; dsimp only)); refine box_event ?hg (N := 3) ?hd (cs := #[.int .u8 a0_0, .int .u8 a0_1, .int .u8 a0_2, .int .u8 a0_3, .int .u32 a0_4, .int .u16 a0_5, .int .u16 a0_6, .int .u32 a0_7, .int .u32 a0_8, .int .u32 a0_9, .int .u32 a0_10, .string a0_11, .string a0_12, .string a0_13, .slice A0_14 l0_14.length c0_14]) (t := 26) ?hr ?_; (case hd => rfl); (case hg => rfl); (case hr => first | (go_simp; done) | (go_simp; rfl)); intro gb hgb wa hbox hb8; have BK := Aside0.mk hbox; have HB := Aside0.mk hb8; clear hgb hbox hb8)
    | (go_at_call 8; refine (tenancylaw14_awake.calls k true _ HAW.out).mono ?_; rintro e wb ⟨rfl, hb⟩; have BKb := Aside0.mk (blk_below BK.out hb); have HBb := Aside0.mk (below_step HB.out hb); clear hb)
    | ((with_reducible refine gate_dst (N := 17) rfl ?_); refine XBox.loadL_ 17 rfl rfl 26 rfl gb rfl _ BKb.out hu26 rfl hi26 ?_; simp only [Act.put, List.setIfInBounds_toArray, List.set_cons_zero, List.set_cons_succ])
    | (go_at_call 12; refine (wire4_Encode.calls k a0_0 a0_1 a0_2 a0_3 a0_4 a0_5 a0_6 a0_7 a0_8 a0_9 a0_10 a0_11 a0_12 a0_13 A0_14 c0_14 l0_14 es ee _ (Kd.C_below HR.out HBb.out) HC.out HEN.out).mono ?_; rintro e wc ⟨rfl, hb⟩; have HBc := Aside0.mk (below_step HBb.out hb); clear hb))
  go_ret
  exact ⟨rfl, HBc.out⟩
set_option maxHeartbeats 8000000 in
set_option maxRecDepth 100000 in
theorem short_calls (k : Nat) (a0_0 : Int) (a0_1 : Int) (a0_2 : Int) (a0_3 : Int) (a0_4 : Int) (a0_5 : Int) (a0_6 : Int) (a0_7 : Int) (a0_8 : Int) (a0_9 : Int) (a0_10 : Int) (a0_11 : ByteArray) (a0_12 : ByteArray) (a0_13 : ByteArray) (A0_14 : Option Addr) (c0_14 : Nat) (l0_14 : List S47) (cut at' : Int) (es : ByteArray) (w : World) (hr0_14 : Kd.C k47 w A0_14 l0_14.length l0_14) (hc0_14 : l0_14.length ≤ c0_14)
    (haw : tenancylaw14_awake.f k = some true) (hen : wire4_Encode.f k a0_0 a0_1 a0_2 a0_3 a0_4 a0_5 a0_6 a0_7 a0_8 a0_9 a0_10 a0_11 a0_12 a0_13 l0_14 = some (es, 0))
    (hsz : 240 ≤ es.size ∧ es.size ≤ 65507) (c j : Nat) (hc : c < 240 ∧ (IntKind.u64.wrap cut).tmod 240 = (c : Int)) (hj : j < 4 ∧ (IntKind.u64.wrap at').tmod 4 = (j : Int))
    (v : Int) (hv : v = bits .xor .u8 ((bytesOf es).getD (236 + j) 0) 1 ∧ 0 ≤ v ∧ v < 256)
    (h1 : DecE k (es.extract 0 c) 3) (h2 : DecE k (XByR.setB es (236 + j) v) 140) (h3 : DecE k (padS 65508 es) 6) (h4 : DecE k ((padS 65508 es).extract 0 65507) 0) :
    Calls Try.prog 7 #[.agg #[.int .u8 a0_0, .int .u8 a0_1, .int .u8 a0_2, .int .u8 a0_3, .int .u32 a0_4, .int .u16 a0_5, .int .u16 a0_6, .int .u32 a0_7, .int .u32 a0_8, .int .u32 a0_9, .int .u32 a0_10, .string a0_11, .string a0_12, .string a0_13, .slice A0_14 l0_14.length c0_14], .int .i64 cut, .int .i64 at'] w fun e w' => e = .returned (.bool true) ∧ Below w.heap.size w w' := by
  have hu26 := Try.underlying26
  have hi26 : (Try.prog.info? 26).map (·.size) = some 15 := by kernel_rfl
  have HR := Aside0.mk hr0_14
  have HC := Aside0.mk hc0_14
  have HAW := Aside0.mk haw
  have HEN := Aside0.mk hen
  have HSZ := Aside0.mk hsz
  have HCU := Aside0.mk hc
  have HJ := Aside0.mk hj
  have H1 := Aside0.mk h1
  have HV := Aside0.mk hv
  have H2 := Aside0.mk h2
  have H3 := Aside0.mk h3
  have H4 := Aside0.mk h4
  clear hr0_14 hc0_14 haw hen hsz hc hj hv h1 h2 h3 h4
  go_enter Try.func7, Try.ntmps7
  go_upto_region 4 with (first
    | ((with_reducible refine gate_dst (N := 3) rfl ?_); (try (refine gate_guard (by rfl) ?_; dsimp only)); refine box_event ?hg (N := 3) ?hd (cs := #[.int .u8 a0_0, .int .u8 a0_1, .int .u8 a0_2, .int .u8 a0_3, .int .u32 a0_4, .int .u16 a0_5, .int .u16 a0_6, .int .u32 a0_7, .int .u32 a0_8, .int .u32 a0_9, .int .u32 a0_10, .string a0_11, .string a0_12, .string a0_13, .slice A0_14 l0_14.length c0_14]) (t := 26) ?hr ?_; (case hd => rfl); (case hg => rfl); (case hr => first | (go_simp; done) | (go_simp; rfl)); intro gb hgb wa hbox hb8; have BK := Aside0.mk hbox; have HB := Aside0.mk hb8; clear hgb hbox hb8)
    | (go_at_call 8; refine (tenancylaw14_awake.calls k true _ HAW.out).mono ?_; rintro e wb ⟨rfl, hb⟩; have BKb := Aside0.mk (blk_below BK.out hb); have HBb := Aside0.mk (below_step HB.out hb); clear hb)
    | ((with_reducible refine gate_dst (N := 17) rfl ?_); refine XBox.loadL_ 17 rfl rfl 26 rfl gb rfl _ BKb.out hu26 rfl hi26 ?_; simp only [Act.put, List.setIfInBounds_toArray, List.set_cons_zero, List.set_cons_succ])
    | (go_at_call 12; refine (wire4_Encode.calls k a0_0 a0_1 a0_2 a0_3 a0_4 a0_5 a0_6 a0_7 a0_8 a0_9 a0_10 a0_11 a0_12 a0_13 A0_14 c0_14 l0_14 es 0 _ (Kd.C_below HR.out HBb.out) HC.out HEN.out).mono ?_; rintro e wc ⟨rfl, hb⟩; have HBc := Aside0.mk (below_step HBb.out hb); clear hb))
  clear BK BKb HB HBb
  have HW := Aside0.mk HBc.out
  go_upto_region 6 with fail
  have hcu := HCU.out.2
  have hcw : wrap64 (c : Int) = (c : Int) := by have := HCU.out.1; unfold wrap64; omega
  have hcs : (c ≤ es.size) = True := eq_true (by have := HCU.out.1; have := HSZ.out; omega)
  go_upto_region 9 with (go_at_call 16; refine (dec_e k (es.extract 0 c) 3 _ H1.out).mono ?_; rintro e wd ⟨cd, rfl, _, hb⟩; have HBd := Aside0.mk (below_step HBc.out hb); clear hb)
  clear HBc HW hcu hcw hcs
  have hcv := print_bytes (P := Try.prog) 9 39 5 Try.underlying9 Try.underlying39 Try.underlying5 es wd
  go_upto_region 10 with fail
  clear hcv
  have BY := Aside0.mk (XByR.ByR.new wd 5 es)
  have HBy := Aside0.mk (below_step HBd.out (bytes_below (Below.refl _ _) (Nat.le_refl _) 5 es))
  have GY := Aside0.mk (show w.heap.size ≤ wd.heap.size from HBd.out.size)
  generalize grownCap wd es.size 0 5 = cc at *
  generalize Lib.bytesWorld wd 5 es = wy at BY HBy ⊢
  generalize wd.heap.size = gy at BY GY ⊢
  clear HBd
  have hju := HJ.out.2
  have hjb : j ≤ 3 := by have := HJ.out.1; omega
  obtain ⟨kk, hkk⟩ : ∃ kk : Nat, kk = 236 + j := ⟨_, rfl⟩
  have HKK := Aside0.mk hkk
  have hjk2 : (236 + (j : Int)) = (kk : Int) := by omega
  have hkb : kk ≤ 239 := by omega
  clear hkk
  go_upto_region 11 with fail
  have hks : kk < es.size := by have := HKK.out; have := HJ.out.1; have := HSZ.out; omega
  have hck := BY.out.cell kk hks
  have hfk := BY.out.frozen kk hks
  have hks2 : ((kk : Int) < (es.size : Int)) = True := eq_true (by omega)
  have hks1 : (kk < es.size) = True := eq_true hks
  have hk0 : ((0 : Int) ≤ (kk : Int)) = True := eq_true (by omega)
  have HKS := Aside0.mk hks
  clear hks
  go_upto_region 12 with fail
  have HBs := Aside0.mk (show Below w.heap.size w (wy.setCell ⟨gy, kk, none⟩ (.int .u8 (bits .xor .u8 ((bytesOf es)[kk]?.getD 0) 1))) from below_set HBy.out GY.out)
  have hvv : (bytesOf es)[kk]?.getD 0 = (bytesOf es).getD (236 + j) 0 := by rw [← HKK.out, List.getD_eq_getElem?_getD]
  have RS := Aside0.mk (ReadS.of (BY.out.set kk HKS.out v HV.out.2))
  rw [hvv, ← HV.out.1] at HBs ⊢
  rw [HKK.out] at RS
  rw [HKK.out] at HBs ⊢
  generalize wy.setCell ⟨gy, 236 + j, none⟩ (.int .u8 v) = ws at HBs RS ⊢
  clear hvv hck hfk hks2 hks1 hk0 HKS HBy BY GY hju hjb hjk2 hkb
  have hcv := RS.out.text es.size cc (by rw [XByR.size_setB]; exact Nat.le_refl _)
  rw [show (XByR.setB es (236 + j) v).extract 0 es.size = XByR.setB es (236 + j) v by rw [← XByR.size_setB es (236 + j) v]; exact ByteArray.extract_zero_size] at hcv
  go_upto_region 15 with (go_at_call 16; refine (dec_e k _ 140 _ H2.out).mono ?_; rintro e we ⟨ce, rfl, _, hb⟩; have HBe := Aside0.mk (below_step HBs.out hb); clear hb)
  clear hcv RS HBs
  obtain ⟨Z, hZ, hmk⟩ := make_long we 65508 65508 rfl (by decide)
  have HZ := Aside0.mk hZ
  clear hZ
  go_upto_region 16 with fail
  have HG := Aside0.mk (show (we.alloc (.cells Z 5)).heap[we.heap.size]? = some (.cells Z 5 (0, 0)) from blk_new we _)
  have HBz := Aside0.mk (below_alloc HBe.out (.cells Z 5))
  have GZ := Aside0.mk (show w.heap.size ≤ we.heap.size from HBe.out.size)
  generalize we.alloc (.cells Z 5) = wz at HG HBz ⊢
  generalize we.heap.size = gz at HG GZ ⊢
  clear hmk HBe
  obtain ⟨wq, hcp, hrs, hbl⟩ := copy_long wz gz 65508 es Z HZ.out HG.out (by have := HSZ.out; omega) 3
  have RS := Aside0.mk (show ReadS wq gz (padS 65508 es) from hrs)
  have HBq := Aside0.mk (HBz.out.trans (hbl _ GZ.out))
  clear hrs hbl
  go_upto_region 17 with fail
  clear hcp HZ HG HBz
  have hlz : (padS 65508 es).size = 65508 := size_padS _ _ (by have := HSZ.out; omega)
  have hcv := RS.out.text 65508 65508 (by omega)
  have hcv2 := RS.out.text 65507 65508 (by omega)
  rw [show (padS 65508 es).extract 0 65508 = padS 65508 es by have h := ByteArray.extract_zero_size (b := padS 65508 es); rwa [hlz] at h] at hcv
  have HLZ := Aside0.mk hlz
  clear hlz
  go_upto_region 18 with (go_at_call 16; refine (dec_e k _ 6 _ H3.out).mono ?_; rintro e wr ⟨cr, rfl, _, hb⟩; have HBr := Aside0.mk (below_step HBq.out hb); have RS2 := Aside0.mk (RS.out.below hb); clear hb)
  have hcv3 := RS2.out.text 65507 65508 (by have := HLZ.out; omega)
  clear hcv hcv2
  go_upto_region 19 with (first
    | (go_at_call 16; refine (dec_e k _ 0 _ H4.out).mono ?_; rintro e wt ⟨ct, rfl, hct, hb⟩; have HBt := Aside0.mk (below_step HBr.out hb); have HCT := Aside0.mk hct; clear hb hct)
    | ((with_reducible refine gate_dst (N := 12) rfl ?_); refine box_event ?hg (N := 12) ?hd (cs := #[.int .u8 0, .int .u8 0, .int .u8 0, .int .u8 0, .int .u32 0, .int .u16 0, .int .u16 0, .int .u32 0, .int .u32 0, .int .u32 0, .int .u32 0, .string (⟨#[]⟩ : ByteArray), .string (⟨#[]⟩ : ByteArray), .string (⟨#[]⟩ : ByteArray), .slice none 0 0]) (t := 26) ?hr ?_; (case hd => rfl); (case hg => rfl); (case hr => first | (go_simp; done) | (go_simp; rfl)); intro gm hgm wu hbox hb; have BM := Aside0.mk hbox; have HBu := Aside0.mk (below_step HBt.out hb); have GM := Aside0.mk (by rw [hgm]; exact HBt.out.size : w.heap.size ≤ gm); clear hgm hbox hb)
    | ((with_reducible refine gate_store (p := 12) rfl ?_); refine XBox.storeL_ rfl rfl 26 rfl gm rfl _ ct rfl BM.out (by rw [HCT.out.1]; exact hi26) (by rw [HCT.out.1]; exact (Eq.refl 15)) HCT.out.2 ?_; intro wv hw1 hw2 hw3; have HBv := Aside0.mk (HBu.out.trans (hw2 _ GM.out)); clear hw1 hw2 hw3))
  go_wp2
  go_ret
  exact ⟨rfl, HBv.out⟩
end Go.Proofs.Ytdhmlenmnobmfaa.X
