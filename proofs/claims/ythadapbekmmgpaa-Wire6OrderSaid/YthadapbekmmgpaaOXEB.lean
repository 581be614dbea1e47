/- no condition. -/
import Derived.Test.YthadapbekmmgpaaOX0
import Derived.Test.YthadapbekmmgpaaOX4
import Derived.Test.YthadapbekmmgpaaOXCv
import Derived.Test.YthadapbekmmgpaaOXE3
import Derived.Test.YthadapbekmmgpaaOXE4
import Derived.Test.YthadapbekmmgpaaOXE5
import Derived.Test.YthadapbekmmgpaaOXE7
import Derived.Test.YthadapbekmmgpaaOXIn
import Derived.Test.YthadapbekmmgpaaOXOrow
import Derived.Test.YthadapbekmmgpaaOXReg
import Derived.Test.YthadapbekmmgpaaOXRegF
import Derived.Test.YthadapbekmmgpaaOXRegP
import Derived.Outline
import Derived.Lib.Hide
import Derived.Laws.IdiomCopy
import Derived.Lib.SliceRun
import Derived.WalkSpells
namespace Go.Proofs.Ythadapbekmmgpaa.X
open Go.RowKit Go.Proofs.YthadapbekmmgpaaW.PrintWords Go.Proofs.YthadapbekmmgpaaW.PrintLast Go.Proofs.YthadapbekmmgpaaW.PrintMore
set_option linter.unusedVariables false
set_option linter.unusedSimpArgs false
set_option maxHeartbeats 8000000 in
set_option maxRecDepth 100000 in
theorem w6order_err (k : Nat) (m : Ms) (Ai Ao : Option Addr) (ci co : Nat) (w : World) (hai : Kd.C k51 w Ai m.ias.length m.ias) (hci : m.ias.length ≤ ci) (hao : Kd.C k42 w Ao m.opts.length m.opts) (hco : m.opts.length ≤ co)
    (haw : tenancylaw16_awake.f 30 = some true) (es : ByteArray) (ee : Int) (hen : wire6_Encode.f k m.ty m.xid m.cl m.sv m.ias m.code m.rap m.acc m.again m.opts = some (es, ee)) (he : (ee != 0) = true) :
    Calls Try.prog 6 #[.agg #[.int .i64 m.ty, .int .u32 m.xid, .string m.cl, .string m.sv, .slice Ai m.ias.length ci, .int .i64 m.code, .bool m.rap, .bool m.acc, .int .i64 m.again, .slice Ao m.opts.length co]] w fun e w' => e = .returned (.bool true) ∧ Below w.heap.size w w' := by
  have hu26 := Try.underlying26
  have hi26 : (Try.prog.info? 26).map (·.size) = some 10 := by kernel_rfl
  have HAI := Aside0.mk hai
  have HCI := Aside0.mk hci
  have HAO := Aside0.mk hao
  have HCO := Aside0.mk hco
  have HAW := Aside0.mk haw
  have HEN := Aside0.mk hen
  have HE := Aside0.mk he
  clear hai hci hao hco haw hen he
  go_enter Try.func6, Try.ntmps6
  go_upto_region 1 with fail
  have BK := Aside0.mk (blk_new w (.cells #[.int .i64 m.ty, .int .u32 m.xid, .string m.cl, .string m.sv, .slice Ai m.ias.length ci, .int .i64 m.code, .bool m.rap, .bool m.acc, .int .i64 m.again, .slice Ao m.opts.length co] 26))
  have HB := Aside0.mk (below_alloc (Below.refl _ w) (.cells #[.int .i64 m.ty, .int .u32 m.xid, .string m.cl, .string m.sv, .slice Ai m.ias.length ci, .int .i64 m.code, .bool m.rap, .bool m.acc, .int .i64 m.again, .slice Ao m.opts.length co] 26))
  generalize w.alloc (.cells #[.int .i64 m.ty, .int .u32 m.xid, .string m.cl, .string m.sv, .slice Ai m.ias.length ci, .int .i64 m.code, .bool m.rap, .bool m.acc, .int .i64 m.again, .slice Ao m.opts.length co] 26) = w1 at BK HB ⊢
  generalize w.heap.size = gb at BK ⊢
  go_upto_region 4 with (first | (go_at_call 9; refine (tenancylaw16_awake.calls 30 true _ HAW.out).mono ?_; rintro e wb ⟨rfl, hb⟩; have BKb := Aside0.mk (blk_below BK.out hb); have HBb := Aside0.mk (below_step HB.out hb); clear hb) | ((with_reducible refine gate_dst (N := 15) rfl ?_); (try (refine gate_guard (by rfl) ?_; dsimp only)); refine XBox.loadL_ 15 rfl rfl 26 rfl gb rfl _ BKb.out hu26 rfl hi26 ?_; simp only [Act.put, List.setIfInBounds_toArray, List.set_cons_zero, List.set_cons_succ]) | (go_at_call 13; refine (wire6_Encode.calls k m.ty m.xid m.cl m.sv Ai ci m.ias m.code m.rap m.acc m.again Ao co m.opts es ee _ (Kd.C_below HAI.out HBb.out) HCI.out (Kd.C_below HAO.out HBb.out) HCO.out HEN.out).mono ?_; rintro e wc ⟨rfl, hb⟩; have BKc := Aside0.mk (blk_below BKb.out hb); have HBc := Aside0.mk (below_step HBb.out hb); clear hb))
  clear BK BKb HB HBb
  have he := HE.out
  go_wp2
  go_ret
  exact ⟨rfl, HBc.out⟩
set_option maxHeartbeats 8000000 in
set_option maxRecDepth 100000 in
theorem w6order_main (k : Nat) (m : Ms) (Ai Ao : Option Addr) (ci co : Nat) (w : World) (hai : Kd.C k51 w Ai m.ias.length m.ias) (hci : m.ias.length ≤ ci) (hao : Kd.C k42 w Ao m.opts.length m.opts) (hco : m.opts.length ≤ co)
    (haw : tenancylaw16_awake.f 30 = some true) (es : ByteArray) (hen : wire6_Encode.f k m.ty m.xid m.cl m.sv m.ias m.code m.rap m.acc m.again m.opts = some (es, 0)) (hz : 4 ≤ es.size ∧ es.size ≤ 65507) (l1 l2 l3 : List S42) (hp : opt6_Parse.f k (es.extract 4 es.size) = some (l1 ++ l2 ++ l3, 0)) (h2 : l2.length = m.ias.length) (h3 : l3.length = m.opts.length) (hll : l1.length + m.ias.length + m.opts.length ≤ 1000000) (t : ByteArray) (hem : opt6_Emit.f (l3 ++ l2 ++ l1.reverse) = some (t, 0)) (ht : t.size ≤ 65507) (hd : wire6_Decode.f k (es.extract 0 4 ++ t) = some (m, 0)) :
    Calls Try.prog 6 #[.agg #[.int .i64 m.ty, .int .u32 m.xid, .string m.cl, .string m.sv, .slice Ai m.ias.length ci, .int .i64 m.code, .bool m.rap, .bool m.acc, .int .i64 m.again, .slice Ao m.opts.length co]] w fun e w' => e = .returned (.bool true) ∧ Below w.heap.size w w' := by
  have hu26 := Try.underlying26
  have hi26 : (Try.prog.info? 26).map (·.size) = some 10 := by kernel_rfl
  have HAI := Aside0.mk hai
  have HCI := Aside0.mk hci
  have HAO := Aside0.mk hao
  have HCO := Aside0.mk hco
  have HAW := Aside0.mk haw
  have HEN := Aside0.mk hen
  have HZ := Aside0.mk hz
  have HP := Aside0.mk hp
  have H2 := Aside0.mk h2
  have H3 := Aside0.mk h3
  have HLL := Aside0.mk hll
  have HEM := Aside0.mk hem
  have HT := Aside0.mk ht
  have HD := Aside0.mk hd
  clear hai hci hao hco haw hen hz hp h2 h3 hll hem ht hd
  go_enter Try.func6, Try.ntmps6
  go_upto_region 1 with fail
  have BK := Aside0.mk (blk_new w (.cells #[.int .i64 m.ty, .int .u32 m.xid, .string m.cl, .string m.sv, .slice Ai m.ias.length ci, .int .i64 m.code, .bool m.rap, .bool m.acc, .int .i64 m.again, .slice Ao m.opts.length co] 26))
  have HB := Aside0.mk (below_alloc (Below.refl _ w) (.cells #[.int .i64 m.ty, .int .u32 m.xid, .string m.cl, .string m.sv, .slice Ai m.ias.length ci, .int .i64 m.code, .bool m.rap, .bool m.acc, .int .i64 m.again, .slice Ao m.opts.length co] 26))
  generalize w.alloc (.cells #[.int .i64 m.ty, .int .u32 m.xid, .string m.cl, .string m.sv, .slice Ai m.ias.length ci, .int .i64 m.code, .bool m.rap, .bool m.acc, .int .i64 m.again, .slice Ao m.opts.length co] 26) = w1 at BK HB ⊢
  generalize w.heap.size = gb at BK ⊢
  go_upto_region 4 with (first | (go_at_call 9; refine (tenancylaw16_awake.calls 30 true _ HAW.out).mono ?_; rintro e wb ⟨rfl, hb⟩; have BKb := Aside0.mk (blk_below BK.out hb); have HBb := Aside0.mk (below_step HB.out hb); clear hb) | ((with_reducible refine gate_dst (N := 15) rfl ?_); (try (refine gate_guard (by rfl) ?_; dsimp only)); refine XBox.loadL_ 15 rfl rfl 26 rfl gb rfl _ BKb.out hu26 rfl hi26 ?_; simp only [Act.put, List.setIfInBounds_toArray, List.set_cons_zero, List.set_cons_succ]) | (go_at_call 13; refine (wire6_Encode.calls k m.ty m.xid m.cl m.sv Ai ci m.ias m.code m.rap m.acc m.again Ao co m.opts es 0 _ (Kd.C_below HAI.out HBb.out) HCI.out (Kd.C_below HAO.out HBb.out) HCO.out HEN.out).mono ?_; rintro e wc ⟨rfl, hb⟩; have BKc := Aside0.mk (blk_below BKb.out hb); have HBc := Aside0.mk (below_step HBb.out hb); clear hb))
  clear BK BKb HB HBb
  go_upto_region 6 with fail
  have h41 : (4 ≤ es.size) = True := eq_true HZ.out.1
  have h42 : ((4 : Int) ≤ (es.size : Int)) = True := eq_true (by have := HZ.out.1; omega)
  obtain ⟨n, hn⟩ : ∃ n, n = l1.length + m.ias.length + m.opts.length := ⟨_, rfl⟩
  have HN := Aside0.mk hn
  have HLN : Aside0 ((l1 ++ l2 ++ l3).length = n) := ⟨by rw [hn, List.length_append, List.length_append, H2.out, H3.out]⟩
  clear hn
  go_upto_region 7 with (go_at_call 19; refine (opt6_Parse.calls k (es.extract 4 es.size) (l1 ++ l2 ++ l3) 0 _ HP.out).mono ?_; rintro e wp ⟨v0, rfl, RL, hb⟩; obtain ⟨Al, cl, rfl, hcl, hC⟩ := Kd.R_reads RL; clear RL; rw [HLN.out] at hcl hC ⊢; have HCL := Aside0.mk hcl; have HC := Aside0.mk hC; have BKp := Aside0.mk (blk_below BKc.out hb); have HBp := Aside0.mk (below_step HBc.out hb); clear hb hC hcl)
  clear h41 h42 BKc HBc
  have hm9 : wp.cell? ⟨gb, 9, none⟩ = some (.slice Ao m.opts.length co) := (blk_cell BKp.out 9).trans rfl
  have hge : ¬ (n : Int) < (m.opts.length : Int) := by have := HN.out; omega
  go_upto_region 9 with fail
  clear hge
  go_upto_region 10 with fail
  rw [show wrap64 ((n : Int) - (m.opts.length : Int)) = ((l1.length + m.ias.length : Nat) : Int) by rw [Go.IntWalk.wrap64_in _ (by have := HN.out; have := HLL.out; omega)]; have := HN.out; omega]
  go_upto_region 11 with ((with_reducible refine gate_dst (N := 45) rfl ?_); refine XRun.R_make0 k42 (w0 := wp) wp.heap.size 42 rfl rfl 24 (.const (.int .i64 0)) (.tmp 44) rfl (n : Int) rfl rfl Try.underlying24 (.agg #[(.int .u16 0), (.string ⟨#[]⟩)]) 24 info42 rfl (by decide) (by omega) (⟨0, ⟨#[]⟩⟩ : S42) (ok := fun _ => True) (okp := fun _ => False) (k42_mkM _ _ _ (⟨0, ⟨#[]⟩⟩ : S42)) (fun _ h => h.elim) trivial (by omega) (by have := HN.out; have := HLL.out; omega) (Below.refl _ _) (Nat.le_refl _) ?_; intro v1 w1 ho hb hg hat; obtain ⟨A1, c1, rfl⟩ := Kd.R_slice ho; have HR := Aside0.mk ho; have HW1 := Aside0.mk hb; clear ho hb hg hat)
  clear hm9
  have hk1 : (l1.length + m.ias.length ≤ n) = True := eq_true (by have := HN.out; omega)
  have hk2 : n - (l1.length + m.ias.length) = m.opts.length := by have := HN.out; omega
  have hk3 : (0 ≤ (l1.length : Int) + (m.ias.length : Int) ∧ (l1.length : Int) + (m.ias.length : Int) ≤ (n : Int)) = True := eq_true (by have := HN.out; omega)
  have HD3 : Aside0 (Kd.C k42 wp (if cl = l1.length + m.ias.length then Al else Option.map (fun x => x.add ((l1.length + m.ias.length) * 2)) Al) (n - (l1.length + m.ias.length)) l3) := ⟨by
    have hc := HC.out
    rw [← HLN.out] at hc
    have hd3 : (l1 ++ l2 ++ l3).drop (l1.length + m.ias.length) = l3 := by rw [← H2.out, ← List.length_append, List.drop_left]
    have := Kd.C_drop (m := l1.length + m.ias.length) (c := cl) hc (by rw [HLN.out]; have := HN.out; omega) (by rw [HLN.out]; exact HCL.out)
    rw [hd3, H3.out] at this
    rw [hk2]
    exact this⟩
  clear hk2
  go_upto_region 12 with ((with_reducible refine gate_builtin (b := .append) (xs := #[.tmp 46, .tmp 49]) rfl ?_); at_builtin; refine Kd.R_append_rows k42 (w0 := wp) wp.heap.size rfl (.tmp 46) (.tmp 49) 24 42 (.agg #[(.int .u16 0), (.string ⟨#[]⟩)]) 24 rfl Try.underlying24 info42 rfl (by decide) (by omega) (.slice A1 0 c1) [] l3 _ _ _ (fun _ => True) (fun _ => False) rfl rfl HR.out (Kd.C_below HD3.out HW1.out) (fun _ _ h => h) (fun _ h => h.elim) (fun _ _ => trivial) HW1.out HW1.out.size (by have := HLL.out; have := HN.out; simp only [List.length_nil]; omega) ?_; intro v1 w2 ho hb hg hat; rw [List.nil_append] at ho; obtain ⟨A2, c2, rfl⟩ := Kd.R_slice ho; have HR2 := Aside0.mk ho; have HW2 := Aside0.mk hb; clear ho hb hg hat)
  clear hk1 hk3 HR HW1 HD3
  generalize (if cl = l1.length + m.ias.length then Al else Option.map (fun x => x.add ((l1.length + m.ias.length) * 2)) Al) = A9
  have hm4 : w2.cell? ⟨gb, 4, none⟩ = some (.slice Ai m.ias.length ci) := (blk_cell (blk_below BKp.out HW2.out) 4).trans rfl
  go_upto_region 13 with fail
  clear hm4
  rw [show wrap64 (l1.length : Int) = (l1.length : Int) from Go.IntWalk.wrap64_in _ (by have := HLL.out; omega)]
  have hk4 : (0 ≤ (l1.length : Int) + (m.ias.length : Int)) = True := eq_true (by omega)
  have hk5 : (0 ≤ (l1.length : Int) + (m.ias.length : Int) ∧ (l1.length : Int) + (m.ias.length : Int) ≤ (cl : Int)) = True := eq_true (by have := HN.out; have := HCL.out; omega)
  have hk6 : ((l1.length : Int) + (m.ias.length : Int) ≤ (cl : Int)) = True := eq_true (by have := HN.out; have := HCL.out; omega)
  have HD2 : Aside0 (Kd.C k42 wp (if cl = l1.length then Al else Option.map (fun x => x.add (l1.length * 2)) Al) (l1.length + m.ias.length - l1.length) l2) := ⟨by
    have hc := HC.out
    rw [← HLN.out] at hc
    have ht : (l1 ++ l2 ++ l3).take (l1.length + m.ias.length) = l1 ++ l2 := by rw [← H2.out, ← List.length_append, List.take_left]
    have := Kd.C_mid (lo := l1.length) (hi := l1.length + m.ias.length) (c := cl) hc (by omega) (by rw [HLN.out]; have := HN.out; omega) (by rw [HLN.out]; exact HCL.out)
    rw [ht, List.drop_left, H2.out] at this
    rw [Nat.add_sub_cancel_left]
    exact this⟩
  go_upto_region 14 with ((with_reducible refine gate_builtin (b := .append) (xs := #[.tmp 56, .tmp 60]) rfl ?_); at_builtin; refine Kd.R_append_rows k42 (w0 := wp) wp.heap.size rfl (.tmp 56) (.tmp 60) 24 42 (.agg #[(.int .u16 0), (.string ⟨#[]⟩)]) 24 rfl Try.underlying24 info42 rfl (by decide) (by omega) (.slice A2 l3.length c2) l3 l2 _ _ _ (fun _ => True) (fun _ => False) rfl rfl HR2.out (Kd.C_below HD2.out HW2.out) (fun _ _ h => h) (fun _ h => h.elim) (fun _ _ => trivial) HW2.out HW2.out.size (by have := HLL.out; have := H3.out; omega) ?_; intro v1 w3 ho hb hg hat; obtain ⟨A3, c3, rfl⟩ := Kd.R_slice ho; have HR3 := Aside0.mk ho; have HW3 := Aside0.mk hb; clear ho hb hg hat)
  clear hk4 hk5 hk6 HR2 HW2 HD2
  generalize (if cl = l1.length then Al else Option.map (fun x => x.add (l1.length * 2)) Al) = A8
  go_wp2
  rw [show wrap64 ((l1.length : Int) - 1) = (l1.length : Int) - 1 from Go.IntWalk.wrap64_in _ (by have := HLL.out; omega)]
  have HR4 : Aside0 (Kd.R k42 42 w3 wp.heap.size (fun _ => True) (.slice A3 (l3.length + l2.length + (l1.length - l1.length)) c3) (l3 ++ l2 ++ (l1.drop l1.length).reverse)) := ⟨by
    have := HR3.out
    rw [List.length_append] at this
    rw [List.drop_length, List.reverse_nil, List.append_nil, Nat.sub_self, Nat.add_zero]
    exact this⟩
  clear HR3
  go_loopg [7, 9] l1.length (fun gg s7 s9 wr => ∃ (j : Nat) (A : Option Addr) (c : Nat), Aside0 (j ≤ l1.length ∧ j ≤ gg) ∧ s7 = .slice A (l3.length + l2.length + (l1.length - j)) c ∧ s9 = .int .i64 ((j : Int) - 1) ∧ Aside0 (Kd.R k42 42 wr wp.heap.size (fun _ => True) (.slice A (l3.length + l2.length + (l1.length - j)) c) (l3 ++ l2 ++ (l1.drop j).reverse)) ∧ Aside0 (Below wp.heap.size wp wr))
  case atStart => exact ⟨l1.length, A3, c3, ⟨by omega⟩, by simp, rfl, HR4, HW3⟩
  case round =>
    clear HR4 HW3
    obtain ⟨j, A, c, HJ, rfl, rfl, HR, HW⟩ := hrel
    rcases j with _ | q
    · rw [show (((0 : Nat) : Int) - 1) = -1 from rfl]
      obtain ⟨tl, htl⟩ : ∃ tl, tl = l3 ++ l2 ++ l1.reverse := ⟨_, rfl⟩
      have hlt : l3.length + l2.length + (l1.length - 0) = tl.length := by rw [htl]; simp [Nat.add_assoc]
      have hr := HR.out
      rw [hlt, List.drop_zero, ← htl] at hr
      rw [hlt]
      obtain ⟨A6, c6, hv, hl6, hC6⟩ := Kd.R_reads hr
      injection hv with e1 e2 e3
      subst e1 e3
      have hem := HEM.out
      rw [← htl] at hem
      have HEM2 := Aside0.mk hem
      have HC6 := Aside0.mk hC6
      have HL6 := Aside0.mk hl6
      clear hr e2 hC6 hl6 hem htl hlt HR HJ
      go_upto_region 21 with (go_at_call 20; refine (opt6_Emit.calls A c tl t 0 _ HC6.out HL6.out HEM2.out).mono ?_; rintro e w5 ⟨rfl, hb⟩; have HW5 := Aside0.mk (below_step HW.out hb); clear hb)
      clear HW HC6 HL6
      have h41 : (4 ≤ es.size) = True := eq_true HZ.out.1
      have h42 : ((4 : Int) ≤ (es.size : Int)) = True := eq_true (by have := HZ.out.1; omega)
      have hmin : min 4 es.size = 4 := by have := HZ.out.1; omega
      have hs1 : 4 + t.size ≤ 9223372036854775807 := by have := HT.out; omega
      have hs2 : (es.extract 0 4).size + t.size ≤ 9223372036854775807 := by have := HT.out; rw [ByteArray.size_extract]; omega
      go_upto_region 22 with (go_at_call 17; refine (wire6_Decode.calls k (es.extract 0 4 ++ t) m 0 _ HD.out).mono ?_; rintro e wg ⟨vi, vo, rfl, RI, RO, hb⟩; obtain ⟨Aj, cj, rfl, hl1, hk1⟩ := Kd.R_reads RI; obtain ⟨Ap, cp, rfl, hl2, hk2⟩ := Kd.R_reads RO; have HJ2 := Aside0.mk (And.intro hl1 hk1); have HP2 := Aside0.mk (And.intro hl2 hk2); clear RI RO hl1 hk1 hl2 hk2; dsimp only [Ms.row]; have HW6 := Aside0.mk (below_step HW5.out hb); clear hb)
      clear HW5 h41 h42 hmin hs1 hs2
      have HBf := Aside0.mk (below_step HBp.out HW6.out)
      have BNn := Aside0.mk (blk_new wg (.cells #[.int .i64 m.ty, .int .u32 m.xid, .string m.cl, .string m.sv, .slice Aj m.ias.length cj, .int .i64 m.code, .bool m.rap, .bool m.acc, .int .i64 m.again, .slice Ap m.opts.length cp] 26))
      have BKn := Aside0.mk (blk_alloc (blk_below BKp.out HW6.out) (.cells #[.int .i64 m.ty, .int .u32 m.xid, .string m.cl, .string m.sv, .slice Aj m.ias.length cj, .int .i64 m.code, .bool m.rap, .bool m.acc, .int .i64 m.again, .slice Ap m.opts.length cp] 26))
      have HBn := Aside0.mk (below_alloc HBf.out (.cells #[.int .i64 m.ty, .int .u32 m.xid, .string m.cl, .string m.sv, .slice Aj m.ias.length cj, .int .i64 m.code, .bool m.rap, .bool m.acc, .int .i64 m.again, .slice Ap m.opts.length cp] 26))
      have HJn := Aside0.mk (Kd.C_below HJ2.out.2 (below_alloc (Below.refl _ wg) (.cells #[.int .i64 m.ty, .int .u32 m.xid, .string m.cl, .string m.sv, .slice Aj m.ias.length cj, .int .i64 m.code, .bool m.rap, .bool m.acc, .int .i64 m.again, .slice Ap m.opts.length cp] 26)))
      have HPn := Aside0.mk (Kd.C_below HP2.out.2 (below_alloc (Below.refl _ wg) (.cells #[.int .i64 m.ty, .int .u32 m.xid, .string m.cl, .string m.sv, .slice Aj m.ias.length cj, .int .i64 m.code, .bool m.rap, .bool m.acc, .int .i64 m.again, .slice Ap m.opts.length cp] 26)))
      clear HBf HJ2 HP2 HW6
      generalize wg.alloc (.cells #[.int .i64 m.ty, .int .u32 m.xid, .string m.cl, .string m.sv, .slice Aj m.ias.length cj, .int .i64 m.code, .bool m.rap, .bool m.acc, .int .i64 m.again, .slice Ap m.opts.length cp] 26) = wn at BNn BKn HBn HJn HPn ⊢
      generalize wg.heap.size = gn at BNn ⊢
      go_wp2_with (first | ((with_reducible refine gate_dst (N := 93) rfl ?_); (try (refine gate_guard (by rfl) ?_; dsimp only)); refine XBox.loadL_ 93 rfl rfl 26 rfl gn rfl _ BNn.out hu26 rfl hi26 ?_; simp only [Act.put, List.setIfInBounds_toArray, List.set_cons_zero, List.set_cons_succ]) | ((with_reducible refine gate_dst (N := 94) rfl ?_); (try (refine gate_guard (by rfl) ?_; dsimp only)); refine XBox.loadL_ 94 rfl rfl 26 rfl gb rfl _ BKn.out hu26 rfl hi26 ?_; simp only [Act.put, List.setIfInBounds_toArray, List.set_cons_zero, List.set_cons_succ]) | (go_at_call 10; refine (tenancylaw16_same.calls m Aj Ap Ai Ao cj cp ci co _ HJn.out HPn.out (Kd.C_below HAI.out HBn.out) (Kd.C_below HAO.out HBn.out)).mono ?_; rintro e wz ⟨rfl, hb⟩; have HBz := Aside0.mk (below_step HBn.out hb); clear hb))
      go_ret
      exact ⟨rfl, HBz.out⟩
    · have hq : q < l1.length := by have := HJ.out; omega
      rw [show (((q + 1 : Nat) : Int) - 1) = (q : Int) by omega]
      have HQ := Aside0.mk hq
      have hqn : (q : Int) < (n : Int) := by have := HN.out; omega
      have hq0 : (0 : Int) ≤ (q : Int) := by omega
      obtain ⟨x, hx⟩ : ∃ x, x = rd_T42 (l1 ++ l2 ++ l3) (q : Int) := ⟨_, rfl⟩
      obtain ⟨ad, hA, hx0, hx1⟩ := at_T42 (Kd.C_below HC.out HW.out) (q : Int) (by omega) (by omega)
      simp only [Int.toNat_natCast, ← hx] at hx0 hx1
      have HX : Aside0 ((l1.drop (q + 1)).reverse ++ [x] = (l1.drop q).reverse) := ⟨by
        rw [List.drop_eq_getElem_cons hq, List.reverse_cons, hx]
        simp [rd_T42, List.getD_eq_getElem?_getD, List.getElem?_append_left, hq]⟩
      subst hA
      clear hx hq
      go_wp2_with ((with_reducible refine gate_builtin (b := .append) (xs := #[.tmp 68, .tmp 73]) rfl ?_); at_builtin; refine Kd.R_append k42 (w0 := wp) wp.heap.size rfl (.tmp 68) (.tmp 73) 24 42 (.agg #[(.int .u16 0), (.string ⟨#[]⟩)]) 24 rfl Try.underlying24 info42 rfl (by decide) (by omega) (.slice A (l3.length + l2.length + (l1.length - (q + 1))) c) (l3 ++ l2 ++ (l1.drop (q + 1)).reverse) x [.int .u16 x.f0, .string x.f1] (fun _ => True) (fun _ => False) rfl rfl (k42_mkM _ _ _ x) (fun _ hk => hk.elim) (fun _ _ => trivial) HR.out HW.out HW.out.size (by have := HLL.out; have := H2.out; have := H3.out; simp only [List.length_append, List.length_reverse, List.length_drop]; omega) ?_; intro v1 w4 ho hb hg hat; rw [List.append_assoc, HX.out] at ho; obtain ⟨A5, c5, rfl⟩ := Kd.R_slice ho; rw [show (l3 ++ l2 ++ (l1.drop q).reverse).length = l3.length + l2.length + (l1.length - q) by simp only [List.length_append, List.length_reverse, List.length_drop]] at ho ⊢; have HR5 := Aside0.mk ho; have HW5 := Aside0.mk hb; clear ho hb hg hat)
      go_roundg q
      case measure => have := HJ.out; omega
      case rel => exact ⟨q, A5, c5, ⟨by have := HQ.out; omega⟩, by first | rfl | simp, by first | rfl | (rw [Go.IntWalk.wrap64_in _ (by have := HQ.out; have := HLL.out; omega)]), HR5, HW5⟩

end Go.Proofs.Ythadapbekmmgpaa.X
