/- no condition. -/
import Derived.Test.YthadapbekmmgpaaBX0
import Derived.Test.YthadapbekmmgpaaBX4
import Derived.Test.YthadapbekmmgpaaBXCv
import Derived.Test.YthadapbekmmgpaaBXE3
import Derived.Test.YthadapbekmmgpaaBXE4
import Derived.Test.YthadapbekmmgpaaBXE5
import Derived.Test.YthadapbekmmgpaaBXE7
import Derived.Test.YthadapbekmmgpaaBXIn
import Derived.Test.YthadapbekmmgpaaBXOrow
import Derived.Test.YthadapbekmmgpaaBXReg
import Derived.Test.YthadapbekmmgpaaBXRegF
import Derived.Test.YthadapbekmmgpaaBXRegP
import Derived.Outline
import Derived.Lib.Hide
import Derived.Laws.IdiomCopy
import Derived.Lib.SliceRun
import Derived.WalkSpells
namespace Go.Proofs.Ythadapbekmmgpaa.X
open Go.RowKit Go.Proofs.YthadapbekmmgpaaW.PrintWords Go.Proofs.YthadapbekmmgpaaW.PrintLast Go.Proofs.YthadapbekmmgpaaW.PrintMore
set_option linter.unusedVariables false
set_option linter.unusedSimpArgs false
set_option maxHeartbeats 8000000 in
set_option maxRecDepth 100000 in
theorem w6back_ok_ok (k : Nat) (m : Ms) (Ai Ao : Option Addr) (ci co : Nat) (s : ByteArray) (w : World) (hai : Kd.C k51 w Ai m.ias.length m.ias) (hci : m.ias.length ≤ ci) (hao : Kd.C k42 w Ao m.opts.length m.opts) (hco : m.opts.length ≤ co)
    (haw : tenancylaw16_awake.f 30 = some true)
    (es : ByteArray) (hen : wire6_Encode.f k m.ty m.xid m.cl m.sv m.ias m.code m.rap m.acc m.again m.opts = some (es, 0)) (hd1 : wire6_Decode.f k es = some (m, 0)) (hsz : es.size ≤ 65507)
    (md : Ms) (t : ByteArray) (hd2 : wire6_Decode.f k s = some (md, 0)) (hen2 : wire6_Encode.f k md.ty md.xid md.cl md.sv md.ias md.code md.rap md.acc md.again md.opts = some (t, 0)) (hd3 : wire6_Decode.f k t = some (md, 0)) (hso2 : wire6_Sound.f k md.ty md.xid md.cl md.sv md.ias md.code md.rap md.acc md.again md.opts = some true) (hle : t.size ≤ s.size) :
    Calls Try.prog 5 #[.agg #[.int .i64 m.ty, .int .u32 m.xid, .string m.cl, .string m.sv, .slice Ai m.ias.length ci, .int .i64 m.code, .bool m.rap, .bool m.acc, .int .i64 m.again, .slice Ao m.opts.length co], .string s] w fun e w' => e = .returned (.bool true) ∧ Below w.heap.size w w' := by
  have hu26 := Try.underlying26
  have hi26 : (Try.prog.info? 26).map (·.size) = some 10 := by kernel_rfl
  have HAI := Aside0.mk hai
  have HCI := Aside0.mk hci
  have HAO := Aside0.mk hao
  have HCO := Aside0.mk hco
  have HAW := Aside0.mk haw
  have HEN := Aside0.mk hen
  have HD1 := Aside0.mk hd1
  have HSZ := Aside0.mk hsz
  have HD2 := Aside0.mk hd2
  have HEN2 := Aside0.mk hen2
  have HD3 := Aside0.mk hd3
  have HSO2 := Aside0.mk hso2
  have HLE := Aside0.mk hle
  clear hai hci hao hco haw hen hd1 hsz hd2 hen2 hd3 hso2 hle
  go_enter Try.func5, Try.ntmps5
  go_upto_region 1 with fail
  have BK := Aside0.mk (blk_new w (.cells #[.int .i64 m.ty, .int .u32 m.xid, .string m.cl, .string m.sv, .slice Ai m.ias.length ci, .int .i64 m.code, .bool m.rap, .bool m.acc, .int .i64 m.again, .slice Ao m.opts.length co] 26))
  have HB := Aside0.mk (below_alloc (Below.refl _ w) (.cells #[.int .i64 m.ty, .int .u32 m.xid, .string m.cl, .string m.sv, .slice Ai m.ias.length ci, .int .i64 m.code, .bool m.rap, .bool m.acc, .int .i64 m.again, .slice Ao m.opts.length co] 26))
  generalize w.alloc (.cells #[.int .i64 m.ty, .int .u32 m.xid, .string m.cl, .string m.sv, .slice Ai m.ias.length ci, .int .i64 m.code, .bool m.rap, .bool m.acc, .int .i64 m.again, .slice Ao m.opts.length co] 26) = w1 at BK HB ⊢
  generalize w.heap.size = gb at BK ⊢
  go_upto_region 4 with (first | (go_at_call 9; refine (tenancylaw16_awake.calls 30 true _ HAW.out).mono ?_; rintro e wb ⟨rfl, hb⟩; have BKb := Aside0.mk (blk_below BK.out hb); have HBb := Aside0.mk (below_step HB.out hb); clear hb) | ((with_reducible refine gate_dst (N := 15) rfl ?_); (try (refine gate_guard (by rfl) ?_; dsimp only)); refine XBox.loadL_ 15 rfl rfl 26 rfl gb rfl _ BKb.out hu26 rfl hi26 ?_; simp only [Act.put, List.setIfInBounds_toArray, List.set_cons_zero, List.set_cons_succ]) | (go_at_call 13; refine (wire6_Encode.calls k m.ty m.xid m.cl m.sv Ai ci m.ias m.code m.rap m.acc m.again Ao co m.opts es 0 _ (Kd.C_below HAI.out HBb.out) HCI.out (Kd.C_below HAO.out HBb.out) HCO.out HEN.out).mono ?_; rintro e wc ⟨rfl, hb⟩; have BKc := Aside0.mk (blk_below BKb.out hb); have HBc := Aside0.mk (below_step HBb.out hb); clear hb))
  clear BK BKb HB HBb
  go_upto_region 6 with (go_at_call 17; refine (wire6_Decode.calls k es m 0 _ HD1.out).mono ?_; rintro e wd ⟨vi, vo, rfl, RI, RO, hb⟩; obtain ⟨Aj, cj, rfl, hl1, hk1⟩ := Kd.R_reads RI; obtain ⟨Ap, cp, rfl, hl2, hk2⟩ := Kd.R_reads RO; have HJ := Aside0.mk (And.intro hl1 hk1); have HP := Aside0.mk (And.intro hl2 hk2); clear RI RO hl1 hk1 hl2 hk2; dsimp only [Ms.row]; have BKd := Aside0.mk (blk_below BKc.out hb); have HBd := Aside0.mk (below_step HBc.out hb); clear hb)
  clear BKc HBc
  have BN := Aside0.mk (blk_new wd (.cells #[.int .i64 m.ty, .int .u32 m.xid, .string m.cl, .string m.sv, .slice Aj m.ias.length cj, .int .i64 m.code, .bool m.rap, .bool m.acc, .int .i64 m.again, .slice Ap m.opts.length cp] 26))
  have BKe := Aside0.mk (blk_alloc BKd.out (.cells #[.int .i64 m.ty, .int .u32 m.xid, .string m.cl, .string m.sv, .slice Aj m.ias.length cj, .int .i64 m.code, .bool m.rap, .bool m.acc, .int .i64 m.again, .slice Ap m.opts.length cp] 26))
  have HBe := Aside0.mk (below_alloc HBd.out (.cells #[.int .i64 m.ty, .int .u32 m.xid, .string m.cl, .string m.sv, .slice Aj m.ias.length cj, .int .i64 m.code, .bool m.rap, .bool m.acc, .int .i64 m.again, .slice Ap m.opts.length cp] 26))
  have HJe := Aside0.mk (Kd.C_below HJ.out.2 (below_alloc (Below.refl _ wd) (.cells #[.int .i64 m.ty, .int .u32 m.xid, .string m.cl, .string m.sv, .slice Aj m.ias.length cj, .int .i64 m.code, .bool m.rap, .bool m.acc, .int .i64 m.again, .slice Ap m.opts.length cp] 26)))
  have HPe := Aside0.mk (Kd.C_below HP.out.2 (below_alloc (Below.refl _ wd) (.cells #[.int .i64 m.ty, .int .u32 m.xid, .string m.cl, .string m.sv, .slice Aj m.ias.length cj, .int .i64 m.code, .bool m.rap, .bool m.acc, .int .i64 m.again, .slice Ap m.opts.length cp] 26)))
  clear BKd HBd HJ HP
  generalize wd.alloc (.cells #[.int .i64 m.ty, .int .u32 m.xid, .string m.cl, .string m.sv, .slice Aj m.ias.length cj, .int .i64 m.code, .bool m.rap, .bool m.acc, .int .i64 m.again, .slice Ap m.opts.length cp] 26) = we at BN BKe HBe HJe HPe ⊢
  generalize wd.heap.size = gn at BN ⊢
  have hl : ¬ (65507 : Int) < (es.size : Int) := by have := HSZ.out; omega
  go_upto_region 10 with (first | ((with_reducible refine gate_dst (N := 29) rfl ?_); (try (refine gate_guard (by rfl) ?_; dsimp only)); refine XBox.loadL_ 29 rfl rfl 26 rfl gn rfl _ BN.out hu26 rfl hi26 ?_; simp only [Act.put, List.setIfInBounds_toArray, List.set_cons_zero, List.set_cons_succ]) | ((with_reducible refine gate_dst (N := 30) rfl ?_); (try (refine gate_guard (by rfl) ?_; dsimp only)); refine XBox.loadL_ 30 rfl rfl 26 rfl gb rfl _ BKe.out hu26 rfl hi26 ?_; simp only [Act.put, List.setIfInBounds_toArray, List.set_cons_zero, List.set_cons_succ]) | (go_at_call 10; refine (tenancylaw16_same.calls m Aj Ap Ai Ao cj cp ci co _ HJe.out HPe.out (Kd.C_below HAI.out HBe.out) (Kd.C_below HAO.out HBe.out)).mono ?_; rintro e wx ⟨rfl, hb⟩; have HBx := Aside0.mk (below_step HBe.out hb); clear hb))
  clear hl BN BKe HBe HJe HPe
  go_upto_region 11 with (go_at_call 17; refine (wire6_Decode.calls k s md 0 _ HD2.out).mono ?_; rintro e wg ⟨vi, vo, rfl, RI, RO, hb⟩; obtain ⟨Aj, cj, rfl, hl1, hk1⟩ := Kd.R_reads RI; obtain ⟨Ap, cp, rfl, hl2, hk2⟩ := Kd.R_reads RO; have HJ := Aside0.mk (And.intro hl1 hk1); have HP := Aside0.mk (And.intro hl2 hk2); clear RI RO hl1 hk1 hl2 hk2; dsimp only [Ms.row]; have HBg := Aside0.mk (below_step HBx.out hb); clear hb)
  clear HBx
  have BN := Aside0.mk (blk_new wg (.cells #[.int .i64 md.ty, .int .u32 md.xid, .string md.cl, .string md.sv, .slice Aj md.ias.length cj, .int .i64 md.code, .bool md.rap, .bool md.acc, .int .i64 md.again, .slice Ap md.opts.length cp] 26))
  have HBh := Aside0.mk (below_alloc HBg.out (.cells #[.int .i64 md.ty, .int .u32 md.xid, .string md.cl, .string md.sv, .slice Aj md.ias.length cj, .int .i64 md.code, .bool md.rap, .bool md.acc, .int .i64 md.again, .slice Ap md.opts.length cp] 26))
  have HJe := Aside0.mk (Kd.C_below HJ.out.2 (below_alloc (Below.refl _ wg) (.cells #[.int .i64 md.ty, .int .u32 md.xid, .string md.cl, .string md.sv, .slice Aj md.ias.length cj, .int .i64 md.code, .bool md.rap, .bool md.acc, .int .i64 md.again, .slice Ap md.opts.length cp] 26)))
  have HPe := Aside0.mk (Kd.C_below HP.out.2 (below_alloc (Below.refl _ wg) (.cells #[.int .i64 md.ty, .int .u32 md.xid, .string md.cl, .string md.sv, .slice Aj md.ias.length cj, .int .i64 md.code, .bool md.rap, .bool md.acc, .int .i64 md.again, .slice Ap md.opts.length cp] 26)))
  have HJl := Aside0.mk HJ.out.1
  have HPl := Aside0.mk HP.out.1
  clear HBg HJ HP
  generalize wg.alloc (.cells #[.int .i64 md.ty, .int .u32 md.xid, .string md.cl, .string md.sv, .slice Aj md.ias.length cj, .int .i64 md.code, .bool md.rap, .bool md.acc, .int .i64 md.again, .slice Ap md.opts.length cp] 26) = wh at BN HBh HJe HPe ⊢
  generalize wg.heap.size = gn at BN ⊢
  go_upto_region 14 with (first | ((with_reducible refine gate_dst (N := 59) rfl ?_); (try (refine gate_guard (by rfl) ?_; dsimp only)); refine XBox.loadL_ 59 rfl rfl 26 rfl gn rfl _ BN.out hu26 rfl hi26 ?_; simp only [Act.put, List.setIfInBounds_toArray, List.set_cons_zero, List.set_cons_succ]) | (go_at_call 13; refine (wire6_Encode.calls k md.ty md.xid md.cl md.sv Aj cj md.ias md.code md.rap md.acc md.again Ap cp md.opts t 0 _ HJe.out HJl.out HPe.out HPl.out HEN2.out).mono ?_; rintro e wi ⟨rfl, hb⟩; have BN2 := Aside0.mk (blk_below BN.out hb); have HJi := Aside0.mk (Kd.C_below HJe.out hb); have HPi := Aside0.mk (Kd.C_below HPe.out hb); have HBi := Aside0.mk (below_step HBh.out hb); clear hb))
  clear BN HJe HPe HBh
  go_upto_region 15 with (go_at_call 17; refine (wire6_Decode.calls k t md 0 _ HD3.out).mono ?_; rintro e wj ⟨vi, vo, rfl, RI, RO, hb⟩; obtain ⟨At, ct, rfl, hl1, hk1⟩ := Kd.R_reads RI; obtain ⟨Au, cu, rfl, hl2, hk2⟩ := Kd.R_reads RO; have HT := Aside0.mk (And.intro hl1 hk1); have HU := Aside0.mk (And.intro hl2 hk2); clear RI RO hl1 hk1 hl2 hk2; dsimp only [Ms.row]; have BN3 := Aside0.mk (blk_below BN2.out hb); have HJj := Aside0.mk (Kd.C_below HJi.out hb); have HPj := Aside0.mk (Kd.C_below HPi.out hb); have HBj := Aside0.mk (below_step HBi.out hb); clear hb)
  clear BN2 HJi HPi HBi
  have BT := Aside0.mk (blk_new wj (.cells #[.int .i64 md.ty, .int .u32 md.xid, .string md.cl, .string md.sv, .slice At md.ias.length ct, .int .i64 md.code, .bool md.rap, .bool md.acc, .int .i64 md.again, .slice Au md.opts.length cu] 26))
  have BN := Aside0.mk (blk_alloc BN3.out (.cells #[.int .i64 md.ty, .int .u32 md.xid, .string md.cl, .string md.sv, .slice At md.ias.length ct, .int .i64 md.code, .bool md.rap, .bool md.acc, .int .i64 md.again, .slice Au md.opts.length cu] 26))
  have HBk := Aside0.mk (below_alloc HBj.out (.cells #[.int .i64 md.ty, .int .u32 md.xid, .string md.cl, .string md.sv, .slice At md.ias.length ct, .int .i64 md.code, .bool md.rap, .bool md.acc, .int .i64 md.again, .slice Au md.opts.length cu] 26))
  have HJk := Aside0.mk (Kd.C_below HJj.out (below_alloc (Below.refl _ wj) (.cells #[.int .i64 md.ty, .int .u32 md.xid, .string md.cl, .string md.sv, .slice At md.ias.length ct, .int .i64 md.code, .bool md.rap, .bool md.acc, .int .i64 md.again, .slice Au md.opts.length cu] 26)))
  have HPk := Aside0.mk (Kd.C_below HPj.out (below_alloc (Below.refl _ wj) (.cells #[.int .i64 md.ty, .int .u32 md.xid, .string md.cl, .string md.sv, .slice At md.ias.length ct, .int .i64 md.code, .bool md.rap, .bool md.acc, .int .i64 md.again, .slice Au md.opts.length cu] 26)))
  have HTk := Aside0.mk (Kd.C_below HT.out.2 (below_alloc (Below.refl _ wj) (.cells #[.int .i64 md.ty, .int .u32 md.xid, .string md.cl, .string md.sv, .slice At md.ias.length ct, .int .i64 md.code, .bool md.rap, .bool md.acc, .int .i64 md.again, .slice Au md.opts.length cu] 26)))
  have HUk := Aside0.mk (Kd.C_below HU.out.2 (below_alloc (Below.refl _ wj) (.cells #[.int .i64 md.ty, .int .u32 md.xid, .string md.cl, .string md.sv, .slice At md.ias.length ct, .int .i64 md.code, .bool md.rap, .bool md.acc, .int .i64 md.again, .slice Au md.opts.length cu] 26)))
  clear BN3 HBj HJj HPj HT HU
  generalize wj.alloc (.cells #[.int .i64 md.ty, .int .u32 md.xid, .string md.cl, .string md.sv, .slice At md.ias.length ct, .int .i64 md.code, .bool md.rap, .bool md.acc, .int .i64 md.again, .slice Au md.opts.length cu] 26) = wk at BT BN HBk HJk HPk HTk HUk ⊢
  generalize wj.heap.size = gt at BT ⊢
  have hl : (t.size : Int) ≤ (s.size : Int) := by have := HLE.out; omega
  have hl2 : (t.size ≤ s.size) = True := eq_true HLE.out
  go_wp2_with (first | ((with_reducible refine gate_dst (N := 75) rfl ?_); (try (refine gate_guard (by rfl) ?_; dsimp only)); refine XBox.loadL_ 75 rfl rfl 26 rfl gt rfl _ BT.out hu26 rfl hi26 ?_; simp only [Act.put, List.setIfInBounds_toArray, List.set_cons_zero, List.set_cons_succ]) | ((with_reducible refine gate_dst (N := 76) rfl ?_); (try (refine gate_guard (by rfl) ?_; dsimp only)); refine XBox.loadL_ 76 rfl rfl 26 rfl gn rfl _ BN.out hu26 rfl hi26 ?_; simp only [Act.put, List.setIfInBounds_toArray, List.set_cons_zero, List.set_cons_succ]) | (go_at_call 10; refine (tenancylaw16_same.calls md At Au Aj Ap ct cu cj cp _ HTk.out HUk.out HJk.out HPk.out).mono ?_; rintro e wl ⟨rfl, hb⟩; have BN4 := Aside0.mk (blk_below BN.out hb); have HBl := Aside0.mk (below_step HBk.out hb); have HJ4 := Aside0.mk (Kd.C_below HJk.out hb); have HP4 := Aside0.mk (Kd.C_below HPk.out hb); clear hb) | ((with_reducible refine gate_dst (N := 80) rfl ?_); (try (refine gate_guard (by rfl) ?_; dsimp only)); refine XBox.loadL_ 80 rfl rfl 26 rfl gn rfl _ BN4.out hu26 rfl hi26 ?_; simp only [Act.put, List.setIfInBounds_toArray, List.set_cons_zero, List.set_cons_succ]) | (go_at_call 15; refine (wire6_Sound.calls k md.ty md.xid md.cl md.sv Aj cj md.ias md.code md.rap md.acc md.again Ap cp md.opts true _ HJ4.out HJl.out HP4.out HPl.out HSO2.out).mono ?_; rintro e wo ⟨rfl, hb⟩; have HBo := Aside0.mk (below_step HBl.out hb); clear hb))
  go_ret
  exact ⟨rfl, HBo.out⟩
set_option maxHeartbeats 8000000 in
set_option maxRecDepth 100000 in
theorem w6back_ok_err (k : Nat) (m : Ms) (Ai Ao : Option Addr) (ci co : Nat) (s : ByteArray) (w : World) (hai : Kd.C k51 w Ai m.ias.length m.ias) (hci : m.ias.length ≤ ci) (hao : Kd.C k42 w Ao m.opts.length m.opts) (hco : m.opts.length ≤ co)
    (haw : tenancylaw16_awake.f 30 = some true)
    (es : ByteArray) (hen : wire6_Encode.f k m.ty m.xid m.cl m.sv m.ias m.code m.rap m.acc m.again m.opts = some (es, 0)) (hd1 : wire6_Decode.f k es = some (m, 0)) (hsz : es.size ≤ 65507)
    (er : Int) (hd2 : wire6_Decode.f k s = some (mZ, er)) (he2 : (er != 0) = true) :
    Calls Try.prog 5 #[.agg #[.int .i64 m.ty, .int .u32 m.xid, .string m.cl, .string m.sv, .slice Ai m.ias.length ci, .int .i64 m.code, .bool m.rap, .bool m.acc, .int .i64 m.again, .slice Ao m.opts.length co], .string s] w fun e w' => e = .returned (.bool true) ∧ Below w.heap.size w w' := by
  have hu26 := Try.underlying26
  have hi26 : (Try.prog.info? 26).map (·.size) = some 10 := by kernel_rfl
  have HAI := Aside0.mk hai
  have HCI := Aside0.mk hci
  have HAO := Aside0.mk hao
  have HCO := Aside0.mk hco
  have HAW := Aside0.mk haw
  have HEN := Aside0.mk hen
  have HD1 := Aside0.mk hd1
  have HSZ := Aside0.mk hsz
  have HD2 := Aside0.mk hd2
  have HE2 := Aside0.mk he2
  clear hai hci hao hco haw hen hd1 hsz hd2 he2
  go_enter Try.func5, Try.ntmps5
  go_upto_region 1 with fail
  have BK := Aside0.mk (blk_new w (.cells #[.int .i64 m.ty, .int .u32 m.xid, .string m.cl, .string m.sv, .slice Ai m.ias.length ci, .int .i64 m.code, .bool m.rap, .bool m.acc, .int .i64 m.again, .slice Ao m.opts.length co] 26))
  have HB := Aside0.mk (below_alloc (Below.refl _ w) (.cells #[.int .i64 m.ty, .int .u32 m.xid, .string m.cl, .string m.sv, .slice Ai m.ias.length ci, .int .i64 m.code, .bool m.rap, .bool m.acc, .int .i64 m.again, .slice Ao m.opts.length co] 26))
  generalize w.alloc (.cells #[.int .i64 m.ty, .int .u32 m.xid, .string m.cl, .string m.sv, .slice Ai m.ias.length ci, .int .i64 m.code, .bool m.rap, .bool m.acc, .int .i64 m.again, .slice Ao m.opts.length co] 26) = w1 at BK HB ⊢
  generalize w.heap.size = gb at BK ⊢
  go_upto_region 4 with (first | (go_at_call 9; refine (tenancylaw16_awake.calls 30 true _ HAW.out).mono ?_; rintro e wb ⟨rfl, hb⟩; have BKb := Aside0.mk (blk_below BK.out hb); have HBb := Aside0.mk (below_step HB.out hb); clear hb) | ((with_reducible refine gate_dst (N := 15) rfl ?_); (try (refine gate_guard (by rfl) ?_; dsimp only)); refine XBox.loadL_ 15 rfl rfl 26 rfl gb rfl _ BKb.out hu26 rfl hi26 ?_; simp only [Act.put, List.setIfInBounds_toArray, List.set_cons_zero, List.set_cons_succ]) | (go_at_call 13; refine (wire6_Encode.calls k m.ty m.xid m.cl m.sv Ai ci m.ias m.code m.rap m.acc m.again Ao co m.opts es 0 _ (Kd.C_below HAI.out HBb.out) HCI.out (Kd.C_below HAO.out HBb.out) HCO.out HEN.out).mono ?_; rintro e wc ⟨rfl, hb⟩; have BKc := Aside0.mk (blk_below BKb.out hb); have HBc := Aside0.mk (below_step HBb.out hb); clear hb))
  clear BK BKb HB HBb
  go_upto_region 6 with (go_at_call 17; refine (wire6_Decode.calls k es m 0 _ HD1.out).mono ?_; rintro e wd ⟨vi, vo, rfl, RI, RO, hb⟩; obtain ⟨Aj, cj, rfl, hl1, hk1⟩ := Kd.R_reads RI; obtain ⟨Ap, cp, rfl, hl2, hk2⟩ := Kd.R_reads RO; have HJ := Aside0.mk (And.intro hl1 hk1); have HP := Aside0.mk (And.intro hl2 hk2); clear RI RO hl1 hk1 hl2 hk2; dsimp only [Ms.row]; have BKd := Aside0.mk (blk_below BKc.out hb); have HBd := Aside0.mk (below_step HBc.out hb); clear hb)
  clear BKc HBc
  have BN := Aside0.mk (blk_new wd (.cells #[.int .i64 m.ty, .int .u32 m.xid, .string m.cl, .string m.sv, .slice Aj m.ias.length cj, .int .i64 m.code, .bool m.rap, .bool m.acc, .int .i64 m.again, .slice Ap m.opts.length cp] 26))
  have BKe := Aside0.mk (blk_alloc BKd.out (.cells #[.int .i64 m.ty, .int .u32 m.xid, .string m.cl, .string m.sv, .slice Aj m.ias.length cj, .int .i64 m.code, .bool m.rap, .bool m.acc, .int .i64 m.again, .slice Ap m.opts.length cp] 26))
  have HBe := Aside0.mk (below_alloc HBd.out (.cells #[.int .i64 m.ty, .int .u32 m.xid, .string m.cl, .string m.sv, .slice Aj m.ias.length cj, .int .i64 m.code, .bool m.rap, .bool m.acc, .int .i64 m.again, .slice Ap m.opts.length cp] 26))
  have HJe := Aside0.mk (Kd.C_below HJ.out.2 (below_alloc (Below.refl _ wd) (.cells #[.int .i64 m.ty, .int .u32 m.xid, .string m.cl, .string m.sv, .slice Aj m.ias.length cj, .int .i64 m.code, .bool m.rap, .bool m.acc, .int .i64 m.again, .slice Ap m.opts.length cp] 26)))
  have HPe := Aside0.mk (Kd.C_below HP.out.2 (below_alloc (Below.refl _ wd) (.cells #[.int .i64 m.ty, .int .u32 m.xid, .string m.cl, .string m.sv, .slice Aj m.ias.length cj, .int .i64 m.code, .bool m.rap, .bool m.acc, .int .i64 m.again, .slice Ap m.opts.length cp] 26)))
  clear BKd HBd HJ HP
  generalize wd.alloc (.cells #[.int .i64 m.ty, .int .u32 m.xid, .string m.cl, .string m.sv, .slice Aj m.ias.length cj, .int .i64 m.code, .bool m.rap, .bool m.acc, .int .i64 m.again, .slice Ap m.opts.length cp] 26) = we at BN BKe HBe HJe HPe ⊢
  generalize wd.heap.size = gn at BN ⊢
  have hl : ¬ (65507 : Int) < (es.size : Int) := by have := HSZ.out; omega
  go_upto_region 10 with (first | ((with_reducible refine gate_dst (N := 29) rfl ?_); (try (refine gate_guard (by rfl) ?_; dsimp only)); refine XBox.loadL_ 29 rfl rfl 26 rfl gn rfl _ BN.out hu26 rfl hi26 ?_; simp only [Act.put, List.setIfInBounds_toArray, List.set_cons_zero, List.set_cons_succ]) | ((with_reducible refine gate_dst (N := 30) rfl ?_); (try (refine gate_guard (by rfl) ?_; dsimp only)); refine XBox.loadL_ 30 rfl rfl 26 rfl gb rfl _ BKe.out hu26 rfl hi26 ?_; simp only [Act.put, List.setIfInBounds_toArray, List.set_cons_zero, List.set_cons_succ]) | (go_at_call 10; refine (tenancylaw16_same.calls m Aj Ap Ai Ao cj cp ci co _ HJe.out HPe.out (Kd.C_below HAI.out HBe.out) (Kd.C_below HAO.out HBe.out)).mono ?_; rintro e wx ⟨rfl, hb⟩; have HBx := Aside0.mk (below_step HBe.out hb); clear hb))
  clear hl BN BKe HBe HJe HPe
  go_upto_region 11 with (go_at_call 17; refine (wire6_Decode.calls k s mZ er _ HD2.out).mono ?_; rintro e wg ⟨vi, vo, rfl, RI, RO, hb⟩; obtain ⟨Aj, cj, rfl, hl1, hk1⟩ := Kd.R_reads RI; obtain ⟨Ap, cp, rfl, hl2, hk2⟩ := Kd.R_reads RO; have HJ := Aside0.mk (And.intro hl1 hk1); have HP := Aside0.mk (And.intro hl2 hk2); clear RI RO hl1 hk1 hl2 hk2; dsimp only [Ms.row]; have HBg := Aside0.mk (below_step HBx.out hb); clear hb)
  clear HBx
  have BN := Aside0.mk (blk_new wg (.cells #[.int .i64 mZ.ty, .int .u32 mZ.xid, .string mZ.cl, .string mZ.sv, .slice Aj mZ.ias.length cj, .int .i64 mZ.code, .bool mZ.rap, .bool mZ.acc, .int .i64 mZ.again, .slice Ap mZ.opts.length cp] 26))
  have HBh := Aside0.mk (below_alloc HBg.out (.cells #[.int .i64 mZ.ty, .int .u32 mZ.xid, .string mZ.cl, .string mZ.sv, .slice Aj mZ.ias.length cj, .int .i64 mZ.code, .bool mZ.rap, .bool mZ.acc, .int .i64 mZ.again, .slice Ap mZ.opts.length cp] 26))
  have HJe := Aside0.mk (Kd.C_below HJ.out.2 (below_alloc (Below.refl _ wg) (.cells #[.int .i64 mZ.ty, .int .u32 mZ.xid, .string mZ.cl, .string mZ.sv, .slice Aj mZ.ias.length cj, .int .i64 mZ.code, .bool mZ.rap, .bool mZ.acc, .int .i64 mZ.again, .slice Ap mZ.opts.length cp] 26)))
  have HPe := Aside0.mk (Kd.C_below HP.out.2 (below_alloc (Below.refl _ wg) (.cells #[.int .i64 mZ.ty, .int .u32 mZ.xid, .string mZ.cl, .string mZ.sv, .slice Aj mZ.ias.length cj, .int .i64 mZ.code, .bool mZ.rap, .bool mZ.acc, .int .i64 mZ.again, .slice Ap mZ.opts.length cp] 26)))
  have HJl := Aside0.mk HJ.out.1
  have HPl := Aside0.mk HP.out.1
  clear HBg HJ HP
  generalize wg.alloc (.cells #[.int .i64 mZ.ty, .int .u32 mZ.xid, .string mZ.cl, .string mZ.sv, .slice Aj mZ.ias.length cj, .int .i64 mZ.code, .bool mZ.rap, .bool mZ.acc, .int .i64 mZ.again, .slice Ap mZ.opts.length cp] 26) = wh at BN HBh HJe HPe ⊢
  generalize wg.heap.size = gn at BN ⊢
  have he2 := HE2.out
  go_wp2_with (first | ((with_reducible refine gate_dst (N := 55) rfl ?_); (try (refine gate_guard (by rfl) ?_; dsimp only)); refine XBox.loadL_ 55 rfl rfl 26 rfl gn rfl _ BN.out hu26 rfl hi26 ?_; simp only [Act.put, List.setIfInBounds_toArray, List.set_cons_zero, List.set_cons_succ]) | (go_at_call 10; refine (tenancylaw16_same.calls mZ Aj Ap none none cj cp 0 0 _ HJe.out HPe.out (Kd.C_nil _ _) (Kd.C_nil _ _)).mono ?_; rintro e wy ⟨rfl, hb⟩; have HBy := Aside0.mk (below_step HBh.out hb); clear hb))
  go_ret
  exact ⟨rfl, HBy.out⟩
set_option maxHeartbeats 8000000 in
set_option maxRecDepth 100000 in
theorem w6back_err_ok (k : Nat) (m : Ms) (Ai Ao : Option Addr) (ci co : Nat) (s : ByteArray) (w : World) (hai : Kd.C k51 w Ai m.ias.length m.ias) (hci : m.ias.length ≤ ci) (hao : Kd.C k42 w Ao m.opts.length m.opts) (hco : m.opts.length ≤ co)
    (haw : tenancylaw16_awake.f 30 = some true)
    (ee : Int) (so : Bool) (hen : wire6_Encode.f k m.ty m.xid m.cl m.sv m.ias m.code m.rap m.acc m.again m.opts = some (⟨#[]⟩, ee)) (hee : (ee == 0) = false) (hso : wire6_Sound.f k m.ty m.xid m.cl m.sv m.ias m.code m.rap m.acc m.again m.opts = some so) (hx : ((ee == 141) == so) = false)
    (md : Ms) (t : ByteArray) (hd2 : wire6_Decode.f k s = some (md, 0)) (hen2 : wire6_Encode.f k md.ty md.xid md.cl md.sv md.ias md.code md.rap md.acc md.again md.opts = some (t, 0)) (hd3 : wire6_Decode.f k t = some (md, 0)) (hso2 : wire6_Sound.f k md.ty md.xid md.cl md.sv md.ias md.code md.rap md.acc md.again md.opts = some true) (hle : t.size ≤ s.size) :
    Calls Try.prog 5 #[.agg #[.int .i64 m.ty, .int .u32 m.xid, .string m.cl, .string m.sv, .slice Ai m.ias.length ci, .int .i64 m.code, .bool m.rap, .bool m.acc, .int .i64 m.again, .slice Ao m.opts.length co], .string s] w fun e w' => e = .returned (.bool true) ∧ Below w.heap.size w w' := by
  have hu26 := Try.underlying26
  have hi26 : (Try.prog.info? 26).map (·.size) = some 10 := by kernel_rfl
  have HAI := Aside0.mk hai
  have HCI := Aside0.mk hci
  have HAO := Aside0.mk hao
  have HCO := Aside0.mk hco
  have HAW := Aside0.mk haw
  have HEN := Aside0.mk hen
  have HX := Aside0.mk (And.intro hee hx)
  have HSO := Aside0.mk hso
  have HD2 := Aside0.mk hd2
  have HEN2 := Aside0.mk hen2
  have HD3 := Aside0.mk hd3
  have HSO2 := Aside0.mk hso2
  have HLE := Aside0.mk hle
  clear hai hci hao hco haw hen hso hd2 hen2 hd3 hso2 hle hee hx
  go_enter Try.func5, Try.ntmps5
  go_upto_region 1 with fail
  have BK := Aside0.mk (blk_new w (.cells #[.int .i64 m.ty, .int .u32 m.xid, .string m.cl, .string m.sv, .slice Ai m.ias.length ci, .int .i64 m.code, .bool m.rap, .bool m.acc, .int .i64 m.again, .slice Ao m.opts.length co] 26))
  have HB := Aside0.mk (below_alloc (Below.refl _ w) (.cells #[.int .i64 m.ty, .int .u32 m.xid, .string m.cl, .string m.sv, .slice Ai m.ias.length ci, .int .i64 m.code, .bool m.rap, .bool m.acc, .int .i64 m.again, .slice Ao m.opts.length co] 26))
  generalize w.alloc (.cells #[.int .i64 m.ty, .int .u32 m.xid, .string m.cl, .string m.sv, .slice Ai m.ias.length ci, .int .i64 m.code, .bool m.rap, .bool m.acc, .int .i64 m.again, .slice Ao m.opts.length co] 26) = w1 at BK HB ⊢
  generalize w.heap.size = gb at BK ⊢
  go_upto_region 4 with (first | (go_at_call 9; refine (tenancylaw16_awake.calls 30 true _ HAW.out).mono ?_; rintro e wb ⟨rfl, hb⟩; have BKb := Aside0.mk (blk_below BK.out hb); have HBb := Aside0.mk (below_step HB.out hb); clear hb) | ((with_reducible refine gate_dst (N := 15) rfl ?_); (try (refine gate_guard (by rfl) ?_; dsimp only)); refine XBox.loadL_ 15 rfl rfl 26 rfl gb rfl _ BKb.out hu26 rfl hi26 ?_; simp only [Act.put, List.setIfInBounds_toArray, List.set_cons_zero, List.set_cons_succ]) | (go_at_call 13; refine (wire6_Encode.calls k m.ty m.xid m.cl m.sv Ai ci m.ias m.code m.rap m.acc m.again Ao co m.opts _ ee _ (Kd.C_below HAI.out HBb.out) HCI.out (Kd.C_below HAO.out HBb.out) HCO.out HEN.out).mono ?_; rintro e wc ⟨rfl, hb⟩; have BKc := Aside0.mk (blk_below BKb.out hb); have HBc := Aside0.mk (below_step HBb.out hb); clear hb))
  clear BK BKb HB HBb
  have hx1 := HX.out.1
  have hx2 := HX.out.2
  go_upto_region 10 with (first | ((with_reducible refine gate_dst (N := 44) rfl ?_); (try (refine gate_guard (by rfl) ?_; dsimp only)); refine XBox.loadL_ 44 rfl rfl 26 rfl gb rfl _ BKc.out hu26 rfl hi26 ?_; simp only [Act.put, List.setIfInBounds_toArray, List.set_cons_zero, List.set_cons_succ]) | (go_at_call 15; refine (wire6_Sound.calls k m.ty m.xid m.cl m.sv Ai ci m.ias m.code m.rap m.acc m.again Ao co m.opts so _ (Kd.C_below HAI.out HBc.out) HCI.out (Kd.C_below HAO.out HBc.out) HCO.out HSO.out).mono ?_; rintro e wx ⟨rfl, hb⟩; have HBx := Aside0.mk (below_step HBc.out hb); clear hb))
  clear hx1 hx2 BKc HBc
  go_upto_region 11 with (go_at_call 17; refine (wire6_Decode.calls k s md 0 _ HD2.out).mono ?_; rintro e wg ⟨vi, vo, rfl, RI, RO, hb⟩; obtain ⟨Aj, cj, rfl, hl1, hk1⟩ := Kd.R_reads RI; obtain ⟨Ap, cp, rfl, hl2, hk2⟩ := Kd.R_reads RO; have HJ := Aside0.mk (And.intro hl1 hk1); have HP := Aside0.mk (And.intro hl2 hk2); clear RI RO hl1 hk1 hl2 hk2; dsimp only [Ms.row]; have HBg := Aside0.mk (below_step HBx.out hb); clear hb)
  clear HBx
  have BN := Aside0.mk (blk_new wg (.cells #[.int .i64 md.ty, .int .u32 md.xid, .string md.cl, .string md.sv, .slice Aj md.ias.length cj, .int .i64 md.code, .bool md.rap, .bool md.acc, .int .i64 md.again, .slice Ap md.opts.length cp] 26))
  have HBh := Aside0.mk (below_alloc HBg.out (.cells #[.int .i64 md.ty, .int .u32 md.xid, .string md.cl, .string md.sv, .slice Aj md.ias.length cj, .int .i64 md.code, .bool md.rap, .bool md.acc, .int .i64 md.again, .slice Ap md.opts.length cp] 26))
  have HJe := Aside0.mk (Kd.C_below HJ.out.2 (below_alloc (Below.refl _ wg) (.cells #[.int .i64 md.ty, .int .u32 md.xid, .string md.cl, .string md.sv, .slice Aj md.ias.length cj, .int .i64 md.code, .bool md.rap, .bool md.acc, .int .i64 md.again, .slice Ap md.opts.length cp] 26)))
  have HPe := Aside0.mk (Kd.C_below HP.out.2 (below_alloc (Below.refl _ wg) (.cells #[.int .i64 md.ty, .int .u32 md.xid, .string md.cl, .string md.sv, .slice Aj md.ias.length cj, .int .i64 md.code, .bool md.rap, .bool md.acc, .int .i64 md.again, .slice Ap md.opts.length cp] 26)))
  have HJl := Aside0.mk HJ.out.1
  have HPl := Aside0.mk HP.out.1
  clear HBg HJ HP
  generalize wg.alloc (.cells #[.int .i64 md.ty, .int .u32 md.xid, .string md.cl, .string md.sv, .slice Aj md.ias.length cj, .int .i64 md.code, .bool md.rap, .bool md.acc, .int .i64 md.again, .slice Ap md.opts.length cp] 26) = wh at BN HBh HJe HPe ⊢
  generalize wg.heap.size = gn at BN ⊢
  go_upto_region 14 with (first | ((with_reducible refine gate_dst (N := 59) rfl ?_); (try (refine gate_guard (by rfl) ?_; dsimp only)); refine XBox.loadL_ 59 rfl rfl 26 rfl gn rfl _ BN.out hu26 rfl hi26 ?_; simp only [Act.put, List.setIfInBounds_toArray, List.set_cons_zero, List.set_cons_succ]) | (go_at_call 13; refine (wire6_Encode.calls k md.ty md.xid md.cl md.sv Aj cj md.ias md.code md.rap md.acc md.again Ap cp md.opts t 0 _ HJe.out HJl.out HPe.out HPl.out HEN2.out).mono ?_; rintro e wi ⟨rfl, hb⟩; have BN2 := Aside0.mk (blk_below BN.out hb); have HJi := Aside0.mk (Kd.C_below HJe.out hb); have HPi := Aside0.mk (Kd.C_below HPe.out hb); have HBi := Aside0.mk (below_step HBh.out hb); clear hb))
  clear BN HJe HPe HBh
  go_upto_region 15 with (go_at_call 17; refine (wire6_Decode.calls k t md 0 _ HD3.out).mono ?_; rintro e wj ⟨vi, vo, rfl, RI, RO, hb⟩; obtain ⟨At, ct, rfl, hl1, hk1⟩ := Kd.R_reads RI; obtain ⟨Au, cu, rfl, hl2, hk2⟩ := Kd.R_reads RO; have HT := Aside0.mk (And.intro hl1 hk1); have HU := Aside0.mk (And.intro hl2 hk2); clear RI RO hl1 hk1 hl2 hk2; dsimp only [Ms.row]; have BN3 := Aside0.mk (blk_below BN2.out hb); have HJj := Aside0.mk (Kd.C_below HJi.out hb); have HPj := Aside0.mk (Kd.C_below HPi.out hb); have HBj := Aside0.mk (below_step HBi.out hb); clear hb)
  clear BN2 HJi HPi HBi
  have BT := Aside0.mk (blk_new wj (.cells #[.int .i64 md.ty, .int .u32 md.xid, .string md.cl, .string md.sv, .slice At md.ias.length ct, .int .i64 md.code, .bool md.rap, .bool md.acc, .int .i64 md.again, .slice Au md.opts.length cu] 26))
  have BN := Aside0.mk (blk_alloc BN3.out (.cells #[.int .i64 md.ty, .int .u32 md.xid, .string md.cl, .string md.sv, .slice At md.ias.length ct, .int .i64 md.code, .bool md.rap, .bool md.acc, .int .i64 md.again, .slice Au md.opts.length cu] 26))
  have HBk := Aside0.mk (below_alloc HBj.out (.cells #[.int .i64 md.ty, .int .u32 md.xid, .string md.cl, .string md.sv, .slice At md.ias.length ct, .int .i64 md.code, .bool md.rap, .bool md.acc, .int .i64 md.again, .slice Au md.opts.length cu] 26))
  have HJk := Aside0.mk (Kd.C_below HJj.out (below_alloc (Below.refl _ wj) (.cells #[.int .i64 md.ty, .int .u32 md.xid, .string md.cl, .string md.sv, .slice At md.ias.length ct, .int .i64 md.code, .bool md.rap, .bool md.acc, .int .i64 md.again, .slice Au md.opts.length cu] 26)))
  have HPk := Aside0.mk (Kd.C_below HPj.out (below_alloc (Below.refl _ wj) (.cells #[.int .i64 md.ty, .int .u32 md.xid, .string md.cl, .string md.sv, .slice At md.ias.length ct, .int .i64 md.code, .bool md.rap, .bool md.acc, .int .i64 md.again, .slice Au md.opts.length cu] 26)))
  have HTk := Aside0.mk (Kd.C_below HT.out.2 (below_alloc (Below.refl _ wj) (.cells #[.int .i64 md.ty, .int .u32 md.xid, .string md.cl, .string md.sv, .slice At md.ias.length ct, .int .i64 md.code, .bool md.rap, .bool md.acc, .int .i64 md.again, .slice Au md.opts.length cu] 26)))
  have HUk := Aside0.mk (Kd.C_below HU.out.2 (below_alloc (Below.refl _ wj) (.cells #[.int .i64 md.ty, .int .u32 md.xid, .string md.cl, .string md.sv, .slice At md.ias.length ct, .int .i64 md.code, .bool md.rap, .bool md.acc, .int .i64 md.again, .slice Au md.opts.length cu] 26)))
  clear BN3 HBj HJj HPj HT HU
  generalize wj.alloc (.cells #[.int .i64 md.ty, .int .u32 md.xid, .string md.cl, .string md.sv, .slice At md.ias.length ct, .int .i64 md.code, .bool md.rap, .bool md.acc, .int .i64 md.again, .slice Au md.opts.length cu] 26) = wk at BT BN HBk HJk HPk HTk HUk ⊢
  generalize wj.heap.size = gt at BT ⊢
  have hl : (t.size : Int) ≤ (s.size : Int) := by have := HLE.out; omega
  have hl2 : (t.size ≤ s.size) = True := eq_true HLE.out
  go_wp2_with (first | ((with_reducible refine gate_dst (N := 75) rfl ?_); (try (refine gate_guard (by rfl) ?_; dsimp only)); refine XBox.loadL_ 75 rfl rfl 26 rfl gt rfl _ BT.out hu26 rfl hi26 ?_; simp only [Act.put, List.setIfInBounds_toArray, List.set_cons_zero, List.set_cons_succ]) | ((with_reducible refine gate_dst (N := 76) rfl ?_); (try (refine gate_guard (by rfl) ?_; dsimp only)); refine XBox.loadL_ 76 rfl rfl 26 rfl gn rfl _ BN.out hu26 rfl hi26 ?_; simp only [Act.put, List.setIfInBounds_toArray, List.set_cons_zero, List.set_cons_succ]) | (go_at_call 10; refine (tenancylaw16_same.calls md At Au Aj Ap ct cu cj cp _ HTk.out HUk.out HJk.out HPk.out).mono ?_; rintro e wl ⟨rfl, hb⟩; have BN4 := Aside0.mk (blk_below BN.out hb); have HBl := Aside0.mk (below_step HBk.out hb); have HJ4 := Aside0.mk (Kd.C_below HJk.out hb); have HP4 := Aside0.mk (Kd.C_below HPk.out hb); clear hb) | ((with_reducible refine gate_dst (N := 80) rfl ?_); (try (refine gate_guard (by rfl) ?_; dsimp only)); refine XBox.loadL_ 80 rfl rfl 26 rfl gn rfl _ BN4.out hu26 rfl hi26 ?_; simp only [Act.put, List.setIfInBounds_toArray, List.set_cons_zero, List.set_cons_succ]) | (go_at_call 15; refine (wire6_Sound.calls k md.ty md.xid md.cl md.sv Aj cj md.ias md.code md.rap md.acc md.again Ap cp md.opts true _ HJ4.out HJl.out HP4.out HPl.out HSO2.out).mono ?_; rintro e wo ⟨rfl, hb⟩; have HBo := Aside0.mk (below_step HBl.out hb); clear hb))
  go_ret
  exact ⟨rfl, HBo.out⟩
set_option maxHeartbeats 8000000 in
set_option maxRecDepth 100000 in
theorem w6back_err_err (k : Nat) (m : Ms) (Ai Ao : Option Addr) (ci co : Nat) (s : ByteArray) (w : World) (hai : Kd.C k51 w Ai m.ias.length m.ias) (hci : m.ias.length ≤ ci) (hao : Kd.C k42 w Ao m.opts.length m.opts) (hco : m.opts.length ≤ co)
    (haw : tenancylaw16_awake.f 30 = some true)
    (ee : Int) (so : Bool) (hen : wire6_Encode.f k m.ty m.xid m.cl m.sv m.ias m.code m.rap m.acc m.again m.opts = some (⟨#[]⟩, ee)) (hee : (ee == 0) = false) (hso : wire6_Sound.f k m.ty m.xid m.cl m.sv m.ias m.code m.rap m.acc m.again m.opts = some so) (hx : ((ee == 141) == so) = false)
    (er : Int) (hd2 : wire6_Decode.f k s = some (mZ, er)) (he2 : (er != 0) = true) :
    Calls Try.prog 5 #[.agg #[.int .i64 m.ty, .int .u32 m.xid, .string m.cl, .string m.sv, .slice Ai m.ias.length ci, .int .i64 m.code, .bool m.rap, .bool m.acc, .int .i64 m.again, .slice Ao m.opts.length co], .string s] w fun e w' => e = .returned (.bool true) ∧ Below w.heap.size w w' := by
  have hu26 := Try.underlying26
  have hi26 : (Try.prog.info? 26).map (·.size) = some 10 := by kernel_rfl
  have HAI := Aside0.mk hai
  have HCI := Aside0.mk hci
  have HAO := Aside0.mk hao
  have HCO := Aside0.mk hco
  have HAW := Aside0.mk haw
  have HEN := Aside0.mk hen
  have HX := Aside0.mk (And.intro hee hx)
  have HSO := Aside0.mk hso
  have HD2 := Aside0.mk hd2
  have HE2 := Aside0.mk he2
  clear hai hci hao hco haw hen hso hd2 he2 hee hx
  go_enter Try.func5, Try.ntmps5
  go_upto_region 1 with fail
  have BK := Aside0.mk (blk_new w (.cells #[.int .i64 m.ty, .int .u32 m.xid, .string m.cl, .string m.sv, .slice Ai m.ias.length ci, .int .i64 m.code, .bool m.rap, .bool m.acc, .int .i64 m.again, .slice Ao m.opts.length co] 26))
  have HB := Aside0.mk (below_alloc (Below.refl _ w) (.cells #[.int .i64 m.ty, .int .u32 m.xid, .string m.cl, .string m.sv, .slice Ai m.ias.length ci, .int .i64 m.code, .bool m.rap, .bool m.acc, .int .i64 m.again, .slice Ao m.opts.length co] 26))
  generalize w.alloc (.cells #[.int .i64 m.ty, .int .u32 m.xid, .string m.cl, .string m.sv, .slice Ai m.ias.length ci, .int .i64 m.code, .bool m.rap, .bool m.acc, .int .i64 m.again, .slice Ao m.opts.length co] 26) = w1 at BK HB ⊢
  generalize w.heap.size = gb at BK ⊢
  go_upto_region 4 with (first | (go_at_call 9; refine (tenancylaw16_awake.calls 30 true _ HAW.out).mono ?_; rintro e wb ⟨rfl, hb⟩; have BKb := Aside0.mk (blk_below BK.out hb); have HBb := Aside0.mk (below_step HB.out hb); clear hb) | ((with_reducible refine gate_dst (N := 15) rfl ?_); (try (refine gate_guard (by rfl) ?_; dsimp only)); refine XBox.loadL_ 15 rfl rfl 26 rfl gb rfl _ BKb.out hu26 rfl hi26 ?_; simp only [Act.put, List.setIfInBounds_toArray, List.set_cons_zero, List.set_cons_succ]) | (go_at_call 13; refine (wire6_Encode.calls k m.ty m.xid m.cl m.sv Ai ci m.ias m.code m.rap m.acc m.again Ao co m.opts _ ee _ (Kd.C_below HAI.out HBb.out) HCI.out (Kd.C_below HAO.out HBb.out) HCO.out HEN.out).mono ?_; rintro e wc ⟨rfl, hb⟩; have BKc := Aside0.mk (blk_below BKb.out hb); have HBc := Aside0.mk (below_step HBb.out hb); clear hb))
  clear BK BKb HB HBb
  have hx1 := HX.out.1
  have hx2 := HX.out.2
  go_upto_region 10 with (first | ((with_reducible refine gate_dst (N := 44) rfl ?_); (try (refine gate_guard (by rfl) ?_; dsimp only)); refine XBox.loadL_ 44 rfl rfl 26 rfl gb rfl _ BKc.out hu26 rfl hi26 ?_; simp only [Act.put, List.setIfInBounds_toArray, List.set_cons_zero, List.set_cons_succ]) | (go_at_call 15; refine (wire6_Sound.calls k m.ty m.xid m.cl m.sv Ai ci m.ias m.code m.rap m.acc m.again Ao co m.opts so _ (Kd.C_below HAI.out HBc.out) HCI.out (Kd.C_below HAO.out HBc.out) HCO.out HSO.out).mono ?_; rintro e wx ⟨rfl, hb⟩; have HBx := Aside0.mk (below_step HBc.out hb); clear hb))
  clear hx1 hx2 BKc HBc
  go_upto_region 11 with (go_at_call 17; refine (wire6_Decode.calls k s mZ er _ HD2.out).mono ?_; rintro e wg ⟨vi, vo, rfl, RI, RO, hb⟩; obtain ⟨Aj, cj, rfl, hl1, hk1⟩ := Kd.R_reads RI; obtain ⟨Ap, cp, rfl, hl2, hk2⟩ := Kd.R_reads RO; have HJ := Aside0.mk (And.intro hl1 hk1); have HP := Aside0.mk (And.intro hl2 hk2); clear RI RO hl1 hk1 hl2 hk2; dsimp only [Ms.row]; have HBg := Aside0.mk (below_step HBx.out hb); clear hb)
  clear HBx
  have BN := Aside0.mk (blk_new wg (.cells #[.int .i64 mZ.ty, .int .u32 mZ.xid, .string mZ.cl, .string mZ.sv, .slice Aj mZ.ias.length cj, .int .i64 mZ.code, .bool mZ.rap, .bool mZ.acc, .int .i64 mZ.again, .slice Ap mZ.opts.length cp] 26))
  have HBh := Aside0.mk (below_alloc HBg.out (.cells #[.int .i64 mZ.ty, .int .u32 mZ.xid, .string mZ.cl, .string mZ.sv, .slice Aj mZ.ias.length cj, .int .i64 mZ.code, .bool mZ.rap, .bool mZ.acc, .int .i64 mZ.again, .slice Ap mZ.opts.length cp] 26))
  have HJe := Aside0.mk (Kd.C_below HJ.out.2 (below_alloc (Below.refl _ wg) (.cells #[.int .i64 mZ.ty, .int .u32 mZ.xid, .string mZ.cl, .string mZ.sv, .slice Aj mZ.ias.length cj, .int .i64 mZ.code, .bool mZ.rap, .bool mZ.acc, .int .i64 mZ.again, .slice Ap mZ.opts.length cp] 26)))
  have HPe := Aside0.mk (Kd.C_below HP.out.2 (below_alloc (Below.refl _ wg) (.cells #[.int .i64 mZ.ty, .int .u32 mZ.xid, .string mZ.cl, .string mZ.sv, .slice Aj mZ.ias.length cj, .int .i64 mZ.code, .bool mZ.rap, .bool mZ.acc, .int .i64 mZ.again, .slice Ap mZ.opts.length cp] 26)))
  have HJl := Aside0.mk HJ.out.1
  have HPl := Aside0.mk HP.out.1
  clear HBg HJ HP
  generalize wg.alloc (.cells #[.int .i64 mZ.ty, .int .u32 mZ.xid, .string mZ.cl, .string mZ.sv, .slice Aj mZ.ias.length cj, .int .i64 mZ.code, .bool mZ.rap, .bool mZ.acc, .int .i64 mZ.again, .slice Ap mZ.opts.length cp] 26) = wh at BN HBh HJe HPe ⊢
  generalize wg.heap.size = gn at BN ⊢
  have he2 := HE2.out
  go_wp2_with (first | ((with_reducible refine gate_dst (N := 55) rfl ?_); (try (refine gate_guard (by rfl) ?_; dsimp only)); refine XBox.loadL_ 55 rfl rfl 26 rfl gn rfl _ BN.out hu26 rfl hi26 ?_; simp only [Act.put, List.setIfInBounds_toArray, List.set_cons_zero, List.set_cons_succ]) | (go_at_call 10; refine (tenancylaw16_same.calls mZ Aj Ap none none cj cp 0 0 _ HJe.out HPe.out (Kd.C_nil _ _) (Kd.C_nil _ _)).mono ?_; rintro e wy ⟨rfl, hb⟩; have HBy := Aside0.mk (below_step HBh.out hb); clear hb))
  go_ret
  exact ⟨rfl, HBy.out⟩

end Go.Proofs.Ythadapbekmmgpaa.X
