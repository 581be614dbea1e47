/- no condition. -/
import Derived.Test.YthadapbekmmgpaaSX0
import Derived.Test.YthadapbekmmgpaaSX4
import Derived.Test.YthadapbekmmgpaaSXCv
import Derived.Test.YthadapbekmmgpaaSXE3
import Derived.Test.YthadapbekmmgpaaSXE4
import Derived.Test.YthadapbekmmgpaaSXIn
import Derived.Test.YthadapbekmmgpaaSXOrow
import Derived.Test.YthadapbekmmgpaaSXReg
import Derived.Test.YthadapbekmmgpaaSXRegF
import Derived.Test.YthadapbekmmgpaaSXRegG
import Derived.Test.YthadapbekmmgpaaSXRegP
import Derived.Outline
import Derived.Lib.Hide
import Derived.Laws.IdiomCopy
import Derived.Lib.SliceRun
import Derived.WalkSpells
namespace Go.Proofs.Ythadapbekmmgpaa.X
open Go.RowKit Go.Proofs.YthadapbekmmgpaaW.PrintWords Go.Proofs.YthadapbekmmgpaaW.PrintLast Go.Proofs.YthadapbekmmgpaaW.PrintMore
set_option linter.unusedVariables false
set_option linter.unusedSimpArgs false
def w6told (m : Ms) : List Bool := [!m.cl.toList.isEmpty, !m.sv.toList.isEmpty, decide (0 ≤ m.code), m.rap, m.acc, m.again != 0]
def w6fields (m : Ms) : Nat := (w6told m).count true
theorem w6cell (b0 b1 b2 b3 b4 b5 : Bool) : ∀ k : Nat, k < 6 → (#[Value.bool b0, .bool b1, .bool b2, .bool b3, .bool b4, .bool b5] : Array Value)[k]? = some (.bool ([b0, b1, b2, b3, b4, b5].getD k false))
  | 0, _ | 1, _ | 2, _ | 3, _ | 4, _ | 5, _ => rfl
theorem w6count (l : List Bool) (k : Nat) (h : k < l.length) : (l.take (k + 1)).count true = (l.take k).count true + if l.getD k false = true then 1 else 0 := by
  rw [List.take_add_one, List.count_append, List.getElem?_eq_getElem h, List.getD_eq_getElem?_getD, List.getElem?_eq_getElem h]
  simp only [Option.toList_some, Option.getD_some]
  cases l[k] <;> rfl
set_option maxHeartbeats 8000000 in
set_option maxRecDepth 100000 in
theorem tenancylaw16_fields.calls (m : Ms) (Ai Ao : Option Addr) (li ci lo co : Nat) (w : World) :
    Calls Try.prog 21 #[.agg #[.int .i64 m.ty, .int .u32 m.xid, .string m.cl, .string m.sv, .slice Ai li ci, .int .i64 m.code, .bool m.rap, .bool m.acc, .int .i64 m.again, .slice Ao lo co]] w fun e w' => e = .returned (.int .i64 (w6fields m : Nat)) ∧ Below w.heap.size w w' := by
  have hu26 := Try.underlying26
  have hu87 := Try.underlying87
  have hi87 : (Try.prog.info? 87).map (·.size) = some 6 := by kernel_rfl
  have BM := Aside0.mk (blk_new w (.cells #[.int .i64 m.ty, .int .u32 m.xid, .string m.cl, .string m.sv, .slice Ai li ci, .int .i64 m.code, .bool m.rap, .bool m.acc, .int .i64 m.again, .slice Ao lo co] 26))
  have HB := Aside0.mk (below_alloc (Below.refl _ w) (.cells #[.int .i64 m.ty, .int .u32 m.xid, .string m.cl, .string m.sv, .slice Ai li ci, .int .i64 m.code, .bool m.rap, .bool m.acc, .int .i64 m.again, .slice Ao lo co] 26))
  go_enter Try.func21, Try.ntmps21
  go_upto_region 1 with fail
  generalize w.alloc (.cells #[.int .i64 m.ty, .int .u32 m.xid, .string m.cl, .string m.sv, .slice Ai li ci, .int .i64 m.code, .bool m.rap, .bool m.acc, .int .i64 m.again, .slice Ao lo co] 26) = w1 at BM HB ⊢
  generalize w.heap.size = gm at BM ⊢
  have hc2 : w1.cell? ⟨gm, 2, none⟩ = some (.string m.cl) := (blk_cell BM.out 2).trans rfl
  have hc3 : w1.cell? ⟨gm, 3, none⟩ = some (.string m.sv) := (blk_cell BM.out 3).trans rfl
  have hc5 : w1.cell? ⟨gm, 5, none⟩ = some (.int .i64 m.code) := (blk_cell BM.out 5).trans rfl
  have hc6 : w1.cell? ⟨gm, 6, none⟩ = some (.bool m.rap) := (blk_cell BM.out 6).trans rfl
  have hc7 : w1.cell? ⟨gm, 7, none⟩ = some (.bool m.acc) := (blk_cell BM.out 7).trans rfl
  have hc8 : w1.cell? ⟨gm, 8, none⟩ = some (.int .i64 m.again) := (blk_cell BM.out 8).trans rfl
  go_upto_region 3 with fail
  clear hc2 hc3 hc5 hc6 hc7 hc8
  have HF := Aside0.mk (show w6fields m = ([!m.cl.toList.isEmpty, !m.sv.toList.isEmpty, decide (0 ≤ m.code), m.rap, m.acc, m.again != 0]).count true from rfl)
  generalize (!m.cl.toList.isEmpty) = b0 at HF ⊢
  generalize (!m.sv.toList.isEmpty) = b1 at HF ⊢
  generalize (decide (0 ≤ m.code)) = b2 at HF ⊢
  generalize (m.again != 0) = b5 at HF ⊢
  generalize m.rap = b3 at HF ⊢
  generalize m.acc = b4 at HF ⊢
  have BT := Aside0.mk (blk_new w1 (.cells #[.bool b0, .bool b1, .bool b2, .bool b3, .bool b4, .bool b5] 87))
  have HT := Aside0.mk (below_alloc HB.out (.cells #[.bool b0, .bool b1, .bool b2, .bool b3, .bool b4, .bool b5] 87))
  clear BM HB
  generalize w1.alloc (.cells #[.bool b0, .bool b1, .bool b2, .bool b3, .bool b4, .bool b5] 87) = w2 at BT HT ⊢
  generalize w1.heap.size = gt at BT ⊢
  obtain ⟨l, hl⟩ : ∃ l, l = [b0, b1, b2, b3, b4, b5] := ⟨_, rfl⟩
  have HL := Aside0.mk hl
  have HN : Aside0 (l.length = 6) := ⟨by rw [hl]; rfl⟩
  rw [← hl] at HF
  clear hl
  go_wp2
  go_loopg [3, 5] 6 (fun gg s3 s5 wr => ∃ kk : Nat, Aside0 (kk ≤ 6 ∧ 6 - kk ≤ gg) ∧ s5 = .int .i64 kk ∧ s3 = .int .i64 ((l.take kk).count true : Nat) ∧ Aside0 (wr.heap[gt]? = some (.cells #[.bool b0, .bool b1, .bool b2, .bool b3, .bool b4, .bool b5] 87 (0, 0))) ∧ Aside0 (Below w.heap.size w wr))
  case atStart => exact ⟨0, ⟨by omega⟩, rfl, rfl, BT, HT⟩
  case round =>
    clear BT HT
    obtain ⟨kk, HK, rfl, rfl, BT, HT⟩ := hrel
    by_cases hlt : kk < 6
    · have hltz : (kk : Int) < 6 := by omega
      have hk0 : wr.cell? ⟨gt, kk, none⟩ = some (.bool (l.getD kk false)) := by rw [HL.out]; exact (blk_cell BT.out kk).trans (w6cell b0 b1 b2 b3 b4 b5 kk hlt)
      have HLT := Aside0.mk hlt
      have HC := Aside0.mk (w6count l kk (by rw [HN.out]; exact hlt))
      have HCL := Aside0.mk (List.count_le_length (a := true) (l := l.take kk))
      have HTL := Aside0.mk (List.length_take_le kk l)
      clear hlt
      generalize l.getD kk false = c at hk0 HC
      cases c
      · go_wp2
        go_roundg (6 - (kk + 1))
        case measure => have := HK.out; have := HLT.out; omega
        case rel => exact ⟨kk + 1, ⟨by have := HLT.out; omega⟩, by first | rfl | (rw [Go.IntWalk.wrap64_in _ (by have := HLT.out; omega)]; rfl), by rw [HC.out]; rfl, ⟨by first | exact BT.out | exact blk_drew BT.out | exact blk_drewN BT.out _⟩, ⟨by first | exact HT.out | exact below_drew1 HT.out | exact pw_below_drewN HT.out _⟩⟩
      · go_wp2
        go_roundg (6 - (kk + 1))
        case measure => have := HK.out; have := HLT.out; omega
        case rel => exact ⟨kk + 1, ⟨by have := HLT.out; omega⟩, by first | rfl | (rw [Go.IntWalk.wrap64_in _ (by have := HLT.out; omega)]; rfl), by rw [HC.out]; first | rfl | (rw [Go.IntWalk.wrap64_in _ (by have := HLT.out; have := HCL.out; have := HTL.out; omega)]; rfl), ⟨by first | exact BT.out | exact blk_drew BT.out | exact blk_drewN BT.out _⟩, ⟨by first | exact HT.out | exact below_drew1 HT.out | exact pw_below_drewN HT.out _⟩⟩
    · obtain rfl : kk = 6 := by have := HK.out; omega
      have HFF : Aside0 (w6fields m = (l.take 6).count true) := ⟨by rw [HF.out, List.take_of_length_le (by rw [HN.out]; exact Nat.le_refl 6)]⟩
      clear hlt
      go_wp2
      go_ret
      exact ⟨by rw [HFF.out]; rfl, by first | exact HT.out | exact below_drew1 HT.out | exact pw_below_drewN HT.out _⟩

end Go.Proofs.Ythadapbekmmgpaa.X
