/- no condition. -/
import Derived.Test.YthadapbekmmgpaaDX0
import Derived.Test.YthadapbekmmgpaaDX9
import Derived.Test.YthadapbekmmgpaaDXBox
import Derived.Test.YthadapbekmmgpaaDXCv
import Derived.Test.YthadapbekmmgpaaDXE3
import Derived.Test.YthadapbekmmgpaaDXE4
import Derived.Test.YthadapbekmmgpaaDXE5
import Derived.Test.YthadapbekmmgpaaDXE7
import Derived.Test.YthadapbekmmgpaaDXF1
import Derived.Test.YthadapbekmmgpaaDXF2
import Derived.Test.YthadapbekmmgpaaDXF3
import Derived.Test.YthadapbekmmgpaaDXIn
import Derived.Test.YthadapbekmmgpaaDXOrow
import Derived.Test.YthadapbekmmgpaaDXReg
import Derived.Test.YthadapbekmmgpaaDXRegF
import Derived.Test.YthadapbekmmgpaaDXRegP
import Derived.Test.YthadapbekmmgpaaDXRegQ
import Derived.Outline
import Derived.Lib.Hide
import Derived.Laws.IdiomCopy
import Derived.Lib.SliceRun
import Derived.WalkSpells
namespace Go.Proofs.Ythadapbekmmgpaa.X
open Go.RowKit Go.Proofs.YthadapbekmmgpaaW.PrintWords Go.Proofs.YthadapbekmmgpaaW.PrintLast Go.Proofs.YthadapbekmmgpaaW.PrintMore
set_option linter.unusedVariables false
set_option linter.unusedSimpArgs false
set_option maxHeartbeats 8000000 in
set_option maxRecDepth 100000 in
theorem w6decodes (k : Nat) (s : ByteArray) (w : World) (haw : tenancylaw16_awake.f 30 = some true) (m : Ms) (er : Int) (hd : wire6_Decode.f k s = some (m, er)) (hr : tenancyref16_Decode.f k s = some (m, er)) :
    Calls Try.prog 4 #[.string s] w fun e w' => e = .returned (.bool true) ∧ Below w.heap.size w w' := by
  have hu26 := Try.underlying26
  have hi26 : (Try.prog.info? 26).map (·.size) = some 10 := by kernel_rfl
  have HAW := Aside0.mk haw
  have HD := Aside0.mk hd
  have HR := Aside0.mk hr
  clear haw hd hr
  have HB0 := Aside0.mk (Below.refl w.heap.size w)
  go_enter Try.func4, Try.ntmps4
  go_upto_region 4 with (first | (go_at_call 9; refine (tenancylaw16_awake.calls 30 true _ HAW.out).mono ?_; rintro e wa ⟨rfl, hb⟩; have HBa := Aside0.mk (below_step HB0.out hb); clear hb) | (go_at_call 17; refine (wire6_Decode.calls k s m er _ HD.out).mono ?_; rintro e wd ⟨vi, vo, rfl, RI, RO, hb⟩; obtain ⟨Aj, cj, rfl, hl1, hk1⟩ := Kd.R_reads RI; obtain ⟨Ap, cp, rfl, hl2, hk2⟩ := Kd.R_reads RO; have K_Aj := Aside0.mk hk1; have K_Ap := Aside0.mk hk2; clear RI RO hl1 hk1 hl2 hk2; dsimp only [Ms.row]; have HBd := Aside0.mk (below_step HBa.out hb); clear hb))
  have BN := Aside0.mk (blk_new wd (.cells #[.int .i64 m.ty, .int .u32 m.xid, .string m.cl, .string m.sv, .slice Aj m.ias.length cj, .int .i64 m.code, .bool m.rap, .bool m.acc, .int .i64 m.again, .slice Ap m.opts.length cp] 26))
  have HBe := Aside0.mk (below_alloc HBd.out (.cells #[.int .i64 m.ty, .int .u32 m.xid, .string m.cl, .string m.sv, .slice Aj m.ias.length cj, .int .i64 m.code, .bool m.rap, .bool m.acc, .int .i64 m.again, .slice Ap m.opts.length cp] 26))
  have KI := Aside0.mk (Kd.C_below K_Aj.out (below_alloc (Below.refl _ wd) (.cells #[.int .i64 m.ty, .int .u32 m.xid, .string m.cl, .string m.sv, .slice Aj m.ias.length cj, .int .i64 m.code, .bool m.rap, .bool m.acc, .int .i64 m.again, .slice Ap m.opts.length cp] 26)))
  have KO := Aside0.mk (Kd.C_below K_Ap.out (below_alloc (Below.refl _ wd) (.cells #[.int .i64 m.ty, .int .u32 m.xid, .string m.cl, .string m.sv, .slice Aj m.ias.length cj, .int .i64 m.code, .bool m.rap, .bool m.acc, .int .i64 m.again, .slice Ap m.opts.length cp] 26)))
  clear K_Aj K_Ap HBd HBa HB0
  generalize wd.alloc (.cells #[.int .i64 m.ty, .int .u32 m.xid, .string m.cl, .string m.sv, .slice Aj m.ias.length cj, .int .i64 m.code, .bool m.rap, .bool m.acc, .int .i64 m.again, .slice Ap m.opts.length cp] 26) = we at BN HBe KI KO ⊢
  generalize wd.heap.size = gn at BN ⊢
  go_upto_region 5 with (go_at_call 18; refine (tenancyref16_Decode.calls k s m er _ HR.out).mono ?_; rintro e wf ⟨vi, vo, rfl, RI, RO, hb⟩; obtain ⟨Bj, dj, rfl, hl1, hk1⟩ := Kd.R_reads RI; obtain ⟨Bp, dp, rfl, hl2, hk2⟩ := Kd.R_reads RO; have K_Bj := Aside0.mk hk1; have K_Bp := Aside0.mk hk2; clear RI RO hl1 hk1 hl2 hk2; dsimp only [Ms.row]; have BN2 := Aside0.mk (blk_below BN.out hb); have KI2 := Aside0.mk (Kd.C_below KI.out hb); have KO2 := Aside0.mk (Kd.C_below KO.out hb); have HBf := Aside0.mk (below_step HBe.out hb); clear hb)
  have BN3 := Aside0.mk (blk_alloc BN2.out (.cells #[.int .i64 m.ty, .int .u32 m.xid, .string m.cl, .string m.sv, .slice Bj m.ias.length dj, .int .i64 m.code, .bool m.rap, .bool m.acc, .int .i64 m.again, .slice Bp m.opts.length dp] 26))
  have BO := Aside0.mk (blk_new wf (.cells #[.int .i64 m.ty, .int .u32 m.xid, .string m.cl, .string m.sv, .slice Bj m.ias.length dj, .int .i64 m.code, .bool m.rap, .bool m.acc, .int .i64 m.again, .slice Bp m.opts.length dp] 26))
  have HBg := Aside0.mk (below_alloc HBf.out (.cells #[.int .i64 m.ty, .int .u32 m.xid, .string m.cl, .string m.sv, .slice Bj m.ias.length dj, .int .i64 m.code, .bool m.rap, .bool m.acc, .int .i64 m.again, .slice Bp m.opts.length dp] 26))
  have KI3 := Aside0.mk (Kd.C_below KI2.out (below_alloc (Below.refl _ wf) (.cells #[.int .i64 m.ty, .int .u32 m.xid, .string m.cl, .string m.sv, .slice Bj m.ias.length dj, .int .i64 m.code, .bool m.rap, .bool m.acc, .int .i64 m.again, .slice Bp m.opts.length dp] 26)))
  have KO3 := Aside0.mk (Kd.C_below KO2.out (below_alloc (Below.refl _ wf) (.cells #[.int .i64 m.ty, .int .u32 m.xid, .string m.cl, .string m.sv, .slice Bj m.ias.length dj, .int .i64 m.code, .bool m.rap, .bool m.acc, .int .i64 m.again, .slice Bp m.opts.length dp] 26)))
  have LI := Aside0.mk (Kd.C_below K_Bj.out (below_alloc (Below.refl _ wf) (.cells #[.int .i64 m.ty, .int .u32 m.xid, .string m.cl, .string m.sv, .slice Bj m.ias.length dj, .int .i64 m.code, .bool m.rap, .bool m.acc, .int .i64 m.again, .slice Bp m.opts.length dp] 26)))
  have LO := Aside0.mk (Kd.C_below K_Bp.out (below_alloc (Below.refl _ wf) (.cells #[.int .i64 m.ty, .int .u32 m.xid, .string m.cl, .string m.sv, .slice Bj m.ias.length dj, .int .i64 m.code, .bool m.rap, .bool m.acc, .int .i64 m.again, .slice Bp m.opts.length dp] 26)))
  clear K_Bj K_Bp BN2 KI2 KO2 KI KO BN HBf HBe
  generalize wf.alloc (.cells #[.int .i64 m.ty, .int .u32 m.xid, .string m.cl, .string m.sv, .slice Bj m.ias.length dj, .int .i64 m.code, .bool m.rap, .bool m.acc, .int .i64 m.again, .slice Bp m.opts.length dp] 26) = wg at BN3 BO HBg KI3 KO3 LI LO ⊢
  generalize wf.heap.size = go at BO ⊢
  go_wp2_with (first | ((with_reducible refine gate_dst (N := 19) rfl ?_); refine XBox.loadL_ 19 rfl rfl 26 rfl gn rfl _ BN3.out hu26 rfl hi26 ?_; simp only [Act.put, List.setIfInBounds_toArray, List.set_cons_zero, List.set_cons_succ]) | ((with_reducible refine gate_dst (N := 20) rfl ?_); refine XBox.loadL_ 20 rfl rfl 26 rfl go rfl _ BO.out hu26 rfl hi26 ?_; simp only [Act.put, List.setIfInBounds_toArray, List.set_cons_zero, List.set_cons_succ]) | (go_at_call 10; refine (tenancylaw16_same.calls m Aj Ap Bj Bp cj cp dj dp _ KI3.out KO3.out LI.out LO.out).mono ?_; rintro e wy ⟨rfl, hb⟩; have HBy := Aside0.mk (below_step HBg.out hb); clear hb))
  go_ret
  exact ⟨rfl, HBy.out⟩

end Go.Proofs.Ythadapbekmmgpaa.X
