/- no condition. -/
import Derived.Test.YthadapbekmmgpaaTX0
import Derived.Test.YthadapbekmmgpaaTX4
import Derived.Test.YthadapbekmmgpaaTXCv
import Derived.Test.YthadapbekmmgpaaTXE3
import Derived.Test.YthadapbekmmgpaaTXE4
import Derived.Test.YthadapbekmmgpaaTXE5
import Derived.Test.YthadapbekmmgpaaTXE7
import Derived.Test.YthadapbekmmgpaaTXIn
import Derived.Test.YthadapbekmmgpaaTXOrow
import Derived.Test.YthadapbekmmgpaaTXReg
import Derived.Test.YthadapbekmmgpaaTXRegF
import Derived.Test.YthadapbekmmgpaaTXRegP
import Derived.Outline
import Derived.Lib.Hide
import Derived.Laws.IdiomCopy
import Derived.Lib.SliceRun
import Derived.WalkSpells
namespace Go.Proofs.Ythadapbekmmgpaa.X
open Go.RowKit Go.Proofs.YthadapbekmmgpaaW.PrintWords Go.Proofs.YthadapbekmmgpaaW.PrintLast Go.Proofs.YthadapbekmmgpaaW.PrintMore
set_option linter.unusedVariables false
set_option linter.unusedSimpArgs false
theorem optOne {W : World} {g : Nat} {o : S42} (hg : W.heap[g]? = some (.cells #[.int .u16 o.f0, .string o.f1] 42 (0, 0))) : Kd.C k42 W (some ⟨g, 0, none⟩) [o].length [o] :=
  ⟨rfl, by simp, fun _ => ⟨_, rfl, fun j p hj => by
    match j, hj with
    | 0, hj =>
      obtain rfl := Option.some.inj hj
      refine ⟨_, rfl, k42_mk W _, fun i u hu => ?_⟩
      rw [Nat.zero_mul, Nat.zero_add, add_plain]
      match i, hu with
      | 0, hu => obtain rfl := Option.some.inj hu; exact (blk_cell hg 0).trans rfl
      | 1, hu => obtain rfl := Option.some.inj hu; exact (blk_cell hg 1).trans rfl⟩⟩
set_option maxHeartbeats 8000000 in
set_option maxRecDepth 100000 in
theorem w6twice_enc (k : Nat) (m : Ms) (Ai Ao : Option Addr) (ci co : Nat) (o0 : Int) (o1 : ByteArray) (w : World) (hai : Kd.C k51 w Ai m.ias.length m.ias) (hci : m.ias.length ≤ ci) (hao : Kd.C k42 w Ao m.opts.length m.opts) (hco : m.opts.length ≤ co)
    (haw : tenancylaw16_awake.f 30 = some true) (es t : ByteArray) (ee te : Int) (hen : wire6_Encode.f k m.ty m.xid m.cl m.sv m.ias m.code m.rap m.acc m.again m.opts = some (es, ee)) (hem : opt6_Emit.f [(⟨o0, o1⟩ : S42)] = some (t, te)) (hx : (ee != 0) = true) :
    Calls Try.prog 7 #[.agg #[.int .i64 m.ty, .int .u32 m.xid, .string m.cl, .string m.sv, .slice Ai m.ias.length ci, .int .i64 m.code, .bool m.rap, .bool m.acc, .int .i64 m.again, .slice Ao m.opts.length co], .agg #[.int .u16 o0, .string o1]] w fun e w' => e = .returned (.bool true) ∧ Below w.heap.size w w' := by
  have hu26 := Try.underlying26
  have hi26 : (Try.prog.info? 26).map (·.size) = some 10 := by kernel_rfl
  have HAI := Aside0.mk hai
  have HCI := Aside0.mk hci
  have HAO := Aside0.mk hao
  have HCO := Aside0.mk hco
  have HAW := Aside0.mk haw
  have HEN := Aside0.mk hen
  have HEM := Aside0.mk hem
  clear hai hci hao hco haw hen hem
  have hu42 := Try.underlying42
  have hi42 : (Try.prog.info? 42).map (·.size) = some 2 := by kernel_rfl
  have BM := Aside0.mk (blk_alloc (blk_new w (.cells #[.int .i64 m.ty, .int .u32 m.xid, .string m.cl, .string m.sv, .slice Ai m.ias.length ci, .int .i64 m.code, .bool m.rap, .bool m.acc, .int .i64 m.again, .slice Ao m.opts.length co] 26)) (.cells #[.int .u16 o0, .string o1] 42))
  have BO := Aside0.mk (blk_new (w.alloc (.cells #[.int .i64 m.ty, .int .u32 m.xid, .string m.cl, .string m.sv, .slice Ai m.ias.length ci, .int .i64 m.code, .bool m.rap, .bool m.acc, .int .i64 m.again, .slice Ao m.opts.length co] 26)) (.cells #[.int .u16 o0, .string o1] 42))
  have HB := Aside0.mk (below_alloc (below_alloc (Below.refl _ w) (.cells #[.int .i64 m.ty, .int .u32 m.xid, .string m.cl, .string m.sv, .slice Ai m.ias.length ci, .int .i64 m.code, .bool m.rap, .bool m.acc, .int .i64 m.again, .slice Ao m.opts.length co] 26)) (.cells #[.int .u16 o0, .string o1] 42))
  go_enter Try.func7, Try.ntmps7
  go_upto_region 1 with fail
  (try simp only [World.size_alloc] at BO)
  generalize World.alloc (World.alloc w _) _ = W0 at BM BO HB ⊢
  obtain ⟨gm, hgm⟩ : ∃ gm, gm = w.heap.size := ⟨_, rfl⟩
  obtain ⟨go_, hgo⟩ : ∃ go_, go_ = w.heap.size + 1 := ⟨_, rfl⟩
  rw [← hgo] at BO
  rw [← hgm] at BM
  rw [← hgo]
  rw [show (Value.pointer (some ⟨w.heap.size, 0, none⟩)) = .pointer (some ⟨gm, 0, none⟩) by rw [hgm]]
  clear hgm hgo
  go_upto_region 4 with (first | (go_at_call 9; refine (tenancylaw16_awake.calls 30 true _ HAW.out).mono ?_; rintro e wb ⟨rfl, hb⟩; have BMb := Aside0.mk (blk_below BM.out hb); have BOb := Aside0.mk (blk_below BO.out hb); have HBb := Aside0.mk (below_step HB.out hb); clear hb) | ((with_reducible refine gate_dst (N := 17) rfl ?_); (try (refine gate_guard (by rfl) ?_; dsimp only)); refine XBox.loadL_ 17 rfl rfl 26 rfl gm rfl _ BMb.out hu26 rfl hi26 ?_; simp only [Act.put, List.setIfInBounds_toArray, List.set_cons_zero, List.set_cons_succ]) | (go_at_call 13; refine (wire6_Encode.calls k m.ty m.xid m.cl m.sv Ai ci m.ias m.code m.rap m.acc m.again Ao co m.opts es ee _ (Kd.C_below HAI.out HBb.out) HCI.out (Kd.C_below HAO.out HBb.out) HCO.out HEN.out).mono ?_; rintro e wc ⟨rfl, hb⟩; have BMc := Aside0.mk (blk_below BMb.out hb); have BOc := Aside0.mk (blk_below BOb.out hb); have HBc := Aside0.mk (below_step HBb.out hb); clear hb))
  clear BM BMb BO BOb HB HBb
  go_upto_region 5 with (first | ((with_reducible refine gate_dst (N := 22) rfl ?_); refine XBox.loadL_ 22 rfl rfl 42 rfl go_ rfl _ BOc.out hu42 rfl hi42 ?_; simp only [Act.put, List.setIfInBounds_toArray, List.set_cons_zero, List.set_cons_succ]) | (go_at_call 20; have BX := blk_new wc (.cells #[.int .u16 o0, .string o1] 42); have BMd := Aside0.mk (blk_alloc BMc.out (.cells #[.int .u16 o0, .string o1] 42)); have BOd := Aside0.mk (blk_alloc BOc.out (.cells #[.int .u16 o0, .string o1] 42)); have HBd := Aside0.mk (below_alloc HBc.out (.cells #[.int .u16 o0, .string o1] 42)); refine (opt6_Emit.calls _ 1 [(⟨o0, o1⟩ : S42)] t te _ (optOne (o := ⟨o0, o1⟩) BX) (Nat.le_refl 1) HEM.out).mono ?_; rintro e we ⟨rfl, hb⟩; have BMe := Aside0.mk (blk_below BMd.out hb); have BOe := Aside0.mk (blk_below BOd.out hb); have HBe := Aside0.mk (below_step HBd.out hb); clear hb BX BMd BOd HBd))
  clear BMc BOc HBc
  go_wp2
  go_ret
  exact ⟨rfl, by first | exact HBe.out | exact below_drew1 HBe.out | exact pw_below_drewN HBe.out _⟩
set_option maxHeartbeats 8000000 in
set_option maxRecDepth 100000 in
theorem w6twice_emit (k : Nat) (m : Ms) (Ai Ao : Option Addr) (ci co : Nat) (o0 : Int) (o1 : ByteArray) (w : World) (hai : Kd.C k51 w Ai m.ias.length m.ias) (hci : m.ias.length ≤ ci) (hao : Kd.C k42 w Ao m.opts.length m.opts) (hco : m.opts.length ≤ co)
    (haw : tenancylaw16_awake.f 30 = some true) (es t : ByteArray) (te : Int) (hen : wire6_Encode.f k m.ty m.xid m.cl m.sv m.ias m.code m.rap m.acc m.again m.opts = some (es, 0)) (hem : opt6_Emit.f [(⟨o0, o1⟩ : S42)] = some (t, te)) (hx : (te != 0) = true) :
    Calls Try.prog 7 #[.agg #[.int .i64 m.ty, .int .u32 m.xid, .string m.cl, .string m.sv, .slice Ai m.ias.length ci, .int .i64 m.code, .bool m.rap, .bool m.acc, .int .i64 m.again, .slice Ao m.opts.length co], .agg #[.int .u16 o0, .string o1]] w fun e w' => e = .returned (.bool true) ∧ Below w.heap.size w w' := by
  have hu26 := Try.underlying26
  have hi26 : (Try.prog.info? 26).map (·.size) = some 10 := by kernel_rfl
  have HAI := Aside0.mk hai
  have HCI := Aside0.mk hci
  have HAO := Aside0.mk hao
  have HCO := Aside0.mk hco
  have HAW := Aside0.mk haw
  have HEN := Aside0.mk hen
  have HEM := Aside0.mk hem
  clear hai hci hao hco haw hen hem
  have hu42 := Try.underlying42
  have hi42 : (Try.prog.info? 42).map (·.size) = some 2 := by kernel_rfl
  have BM := Aside0.mk (blk_alloc (blk_new w (.cells #[.int .i64 m.ty, .int .u32 m.xid, .string m.cl, .string m.sv, .slice Ai m.ias.length ci, .int .i64 m.code, .bool m.rap, .bool m.acc, .int .i64 m.again, .slice Ao m.opts.length co] 26)) (.cells #[.int .u16 o0, .string o1] 42))
  have BO := Aside0.mk (blk_new (w.alloc (.cells #[.int .i64 m.ty, .int .u32 m.xid, .string m.cl, .string m.sv, .slice Ai m.ias.length ci, .int .i64 m.code, .bool m.rap, .bool m.acc, .int .i64 m.again, .slice Ao m.opts.length co] 26)) (.cells #[.int .u16 o0, .string o1] 42))
  have HB := Aside0.mk (below_alloc (below_alloc (Below.refl _ w) (.cells #[.int .i64 m.ty, .int .u32 m.xid, .string m.cl, .string m.sv, .slice Ai m.ias.length ci, .int .i64 m.code, .bool m.rap, .bool m.acc, .int .i64 m.again, .slice Ao m.opts.length co] 26)) (.cells #[.int .u16 o0, .string o1] 42))
  go_enter Try.func7, Try.ntmps7
  go_upto_region 1 with fail
  (try simp only [World.size_alloc] at BO)
  generalize World.alloc (World.alloc w _) _ = W0 at BM BO HB ⊢
  obtain ⟨gm, hgm⟩ : ∃ gm, gm = w.heap.size := ⟨_, rfl⟩
  obtain ⟨go_, hgo⟩ : ∃ go_, go_ = w.heap.size + 1 := ⟨_, rfl⟩
  rw [← hgo] at BO
  rw [← hgm] at BM
  rw [← hgo]
  rw [show (Value.pointer (some ⟨w.heap.size, 0, none⟩)) = .pointer (some ⟨gm, 0, none⟩) by rw [hgm]]
  clear hgm hgo
  go_upto_region 4 with (first | (go_at_call 9; refine (tenancylaw16_awake.calls 30 true _ HAW.out).mono ?_; rintro e wb ⟨rfl, hb⟩; have BMb := Aside0.mk (blk_below BM.out hb); have BOb := Aside0.mk (blk_below BO.out hb); have HBb := Aside0.mk (below_step HB.out hb); clear hb) | ((with_reducible refine gate_dst (N := 17) rfl ?_); (try (refine gate_guard (by rfl) ?_; dsimp only)); refine XBox.loadL_ 17 rfl rfl 26 rfl gm rfl _ BMb.out hu26 rfl hi26 ?_; simp only [Act.put, List.setIfInBounds_toArray, List.set_cons_zero, List.set_cons_succ]) | (go_at_call 13; refine (wire6_Encode.calls k m.ty m.xid m.cl m.sv Ai ci m.ias m.code m.rap m.acc m.again Ao co m.opts es 0 _ (Kd.C_below HAI.out HBb.out) HCI.out (Kd.C_below HAO.out HBb.out) HCO.out HEN.out).mono ?_; rintro e wc ⟨rfl, hb⟩; have BMc := Aside0.mk (blk_below BMb.out hb); have BOc := Aside0.mk (blk_below BOb.out hb); have HBc := Aside0.mk (below_step HBb.out hb); clear hb))
  clear BM BMb BO BOb HB HBb
  go_upto_region 5 with (first | ((with_reducible refine gate_dst (N := 22) rfl ?_); refine XBox.loadL_ 22 rfl rfl 42 rfl go_ rfl _ BOc.out hu42 rfl hi42 ?_; simp only [Act.put, List.setIfInBounds_toArray, List.set_cons_zero, List.set_cons_succ]) | (go_at_call 20; have BX := blk_new wc (.cells #[.int .u16 o0, .string o1] 42); have BMd := Aside0.mk (blk_alloc BMc.out (.cells #[.int .u16 o0, .string o1] 42)); have BOd := Aside0.mk (blk_alloc BOc.out (.cells #[.int .u16 o0, .string o1] 42)); have HBd := Aside0.mk (below_alloc HBc.out (.cells #[.int .u16 o0, .string o1] 42)); refine (opt6_Emit.calls _ 1 [(⟨o0, o1⟩ : S42)] t te _ (optOne (o := ⟨o0, o1⟩) BX) (Nat.le_refl 1) HEM.out).mono ?_; rintro e we ⟨rfl, hb⟩; have BMe := Aside0.mk (blk_below BMd.out hb); have BOe := Aside0.mk (blk_below BOd.out hb); have HBe := Aside0.mk (below_step HBd.out hb); clear hb BX BMd BOd HBd))
  clear BMc BOc HBc
  go_wp2
  go_ret
  exact ⟨rfl, by first | exact HBe.out | exact below_drew1 HBe.out | exact pw_below_drewN HBe.out _⟩
set_option maxHeartbeats 8000000 in
set_option maxRecDepth 100000 in
theorem w6twice_big (k : Nat) (m : Ms) (Ai Ao : Option Addr) (ci co : Nat) (o0 : Int) (o1 : ByteArray) (w : World) (hai : Kd.C k51 w Ai m.ias.length m.ias) (hci : m.ias.length ≤ ci) (hao : Kd.C k42 w Ao m.opts.length m.opts) (hco : m.opts.length ≤ co)
    (haw : tenancylaw16_awake.f 30 = some true) (es t : ByteArray)  (hen : wire6_Encode.f k m.ty m.xid m.cl m.sv m.ias m.code m.rap m.acc m.again m.opts = some (es, 0)) (hem : opt6_Emit.f [(⟨o0, o1⟩ : S42)] = some (t, 0)) (hsz : 65507 < es.size + t.size ∧ es.size + t.size ≤ 1000000000) :
    Calls Try.prog 7 #[.agg #[.int .i64 m.ty, .int .u32 m.xid, .string m.cl, .string m.sv, .slice Ai m.ias.length ci, .int .i64 m.code, .bool m.rap, .bool m.acc, .int .i64 m.again, .slice Ao m.opts.length co], .agg #[.int .u16 o0, .string o1]] w fun e w' => e = .returned (.bool true) ∧ Below w.heap.size w w' := by
  have hu26 := Try.underlying26
  have hi26 : (Try.prog.info? 26).map (·.size) = some 10 := by kernel_rfl
  have HAI := Aside0.mk hai
  have HCI := Aside0.mk hci
  have HAO := Aside0.mk hao
  have HCO := Aside0.mk hco
  have HAW := Aside0.mk haw
  have HEN := Aside0.mk hen
  have HEM := Aside0.mk hem
  have HSZ := Aside0.mk hsz
  clear hai hci hao hco haw hen hem hsz
  have hu42 := Try.underlying42
  have hi42 : (Try.prog.info? 42).map (·.size) = some 2 := by kernel_rfl
  have BM := Aside0.mk (blk_alloc (blk_new w (.cells #[.int .i64 m.ty, .int .u32 m.xid, .string m.cl, .string m.sv, .slice Ai m.ias.length ci, .int .i64 m.code, .bool m.rap, .bool m.acc, .int .i64 m.again, .slice Ao m.opts.length co] 26)) (.cells #[.int .u16 o0, .string o1] 42))
  have BO := Aside0.mk (blk_new (w.alloc (.cells #[.int .i64 m.ty, .int .u32 m.xid, .string m.cl, .string m.sv, .slice Ai m.ias.length ci, .int .i64 m.code, .bool m.rap, .bool m.acc, .int .i64 m.again, .slice Ao m.opts.length co] 26)) (.cells #[.int .u16 o0, .string o1] 42))
  have HB := Aside0.mk (below_alloc (below_alloc (Below.refl _ w) (.cells #[.int .i64 m.ty, .int .u32 m.xid, .string m.cl, .string m.sv, .slice Ai m.ias.length ci, .int .i64 m.code, .bool m.rap, .bool m.acc, .int .i64 m.again, .slice Ao m.opts.length co] 26)) (.cells #[.int .u16 o0, .string o1] 42))
  go_enter Try.func7, Try.ntmps7
  go_upto_region 1 with fail
  (try simp only [World.size_alloc] at BO)
  generalize World.alloc (World.alloc w _) _ = W0 at BM BO HB ⊢
  obtain ⟨gm, hgm⟩ : ∃ gm, gm = w.heap.size := ⟨_, rfl⟩
  obtain ⟨go_, hgo⟩ : ∃ go_, go_ = w.heap.size + 1 := ⟨_, rfl⟩
  rw [← hgo] at BO
  rw [← hgm] at BM
  rw [← hgo]
  rw [show (Value.pointer (some ⟨w.heap.size, 0, none⟩)) = .pointer (some ⟨gm, 0, none⟩) by rw [hgm]]
  clear hgm hgo
  go_upto_region 4 with (first | (go_at_call 9; refine (tenancylaw16_awake.calls 30 true _ HAW.out).mono ?_; rintro e wb ⟨rfl, hb⟩; have BMb := Aside0.mk (blk_below BM.out hb); have BOb := Aside0.mk (blk_below BO.out hb); have HBb := Aside0.mk (below_step HB.out hb); clear hb) | ((with_reducible refine gate_dst (N := 17) rfl ?_); (try (refine gate_guard (by rfl) ?_; dsimp only)); refine XBox.loadL_ 17 rfl rfl 26 rfl gm rfl _ BMb.out hu26 rfl hi26 ?_; simp only [Act.put, List.setIfInBounds_toArray, List.set_cons_zero, List.set_cons_succ]) | (go_at_call 13; refine (wire6_Encode.calls k m.ty m.xid m.cl m.sv Ai ci m.ias m.code m.rap m.acc m.again Ao co m.opts es 0 _ (Kd.C_below HAI.out HBb.out) HCI.out (Kd.C_below HAO.out HBb.out) HCO.out HEN.out).mono ?_; rintro e wc ⟨rfl, hb⟩; have BMc := Aside0.mk (blk_below BMb.out hb); have BOc := Aside0.mk (blk_below BOb.out hb); have HBc := Aside0.mk (below_step HBb.out hb); clear hb))
  clear BM BMb BO BOb HB HBb
  go_upto_region 5 with (first | ((with_reducible refine gate_dst (N := 22) rfl ?_); refine XBox.loadL_ 22 rfl rfl 42 rfl go_ rfl _ BOc.out hu42 rfl hi42 ?_; simp only [Act.put, List.setIfInBounds_toArray, List.set_cons_zero, List.set_cons_succ]) | (go_at_call 20; have BX := blk_new wc (.cells #[.int .u16 o0, .string o1] 42); have BMd := Aside0.mk (blk_alloc BMc.out (.cells #[.int .u16 o0, .string o1] 42)); have BOd := Aside0.mk (blk_alloc BOc.out (.cells #[.int .u16 o0, .string o1] 42)); have HBd := Aside0.mk (below_alloc HBc.out (.cells #[.int .u16 o0, .string o1] 42)); refine (opt6_Emit.calls _ 1 [(⟨o0, o1⟩ : S42)] t 0 _ (optOne (o := ⟨o0, o1⟩) BX) (Nat.le_refl 1) HEM.out).mono ?_; rintro e we ⟨rfl, hb⟩; have BMe := Aside0.mk (blk_below BMd.out hb); have BOe := Aside0.mk (blk_below BOd.out hb); have HBe := Aside0.mk (below_step HBd.out hb); clear hb BX BMd BOd HBd))
  clear BMc BOc HBc
  have hz1 : (65507 : Int) < (es.size : Int) + (t.size : Int) := by have := HSZ.out.1; omega
  have hz2 : wrap64 ((es.size : Int) + (t.size : Int)) = (es.size : Int) + (t.size : Int) := Go.IntWalk.wrap64_in _ (by have := HSZ.out.2; omega)
  go_wp2
  go_ret
  exact ⟨rfl, by first | exact HBe.out | exact below_drew1 HBe.out | exact pw_below_drewN HBe.out _⟩
set_option maxHeartbeats 8000000 in
set_option maxRecDepth 100000 in
theorem w6twice_long (k : Nat) (m : Ms) (Ai Ao : Option Addr) (ci co : Nat) (o0 : Int) (o1 : ByteArray) (w : World) (hai : Kd.C k51 w Ai m.ias.length m.ias) (hci : m.ias.length ≤ ci) (hao : Kd.C k42 w Ao m.opts.length m.opts) (hco : m.opts.length ≤ co)
    (haw : tenancylaw16_awake.f 30 = some true) (es t : ByteArray)  (hen : wire6_Encode.f k m.ty m.xid m.cl m.sv m.ias m.code m.rap m.acc m.again m.opts = some (es, 0)) (hem : opt6_Emit.f [(⟨o0, o1⟩ : S42)] = some (t, 0)) (l : List S42) (pe : Int) (hp : opt6_Parse.f k (es.extract 4 es.size) = some (l, pe)) (md : Ms) (hd : wire6_Decode.f k (es ++ t) = some (md, 6)) (hsz : 4 ≤ es.size ∧ es.size + t.size ≤ 65507) (hl : 128 ≤ l.length) :
    Calls Try.prog 7 #[.agg #[.int .i64 m.ty, .int .u32 m.xid, .string m.cl, .string m.sv, .slice Ai m.ias.length ci, .int .i64 m.code, .bool m.rap, .bool m.acc, .int .i64 m.again, .slice Ao m.opts.length co], .agg #[.int .u16 o0, .string o1]] w fun e w' => e = .returned (.bool true) ∧ Below w.heap.size w w' := by
  have hu26 := Try.underlying26
  have hi26 : (Try.prog.info? 26).map (·.size) = some 10 := by kernel_rfl
  have HAI := Aside0.mk hai
  have HCI := Aside0.mk hci
  have HAO := Aside0.mk hao
  have HCO := Aside0.mk hco
  have HAW := Aside0.mk haw
  have HEN := Aside0.mk hen
  have HEM := Aside0.mk hem
  have HP := Aside0.mk hp
  have HD := Aside0.mk hd
  have HSZ := Aside0.mk hsz
  have HL := Aside0.mk hl
  clear hai hci hao hco haw hen hem hp hd hsz hl
  have hu42 := Try.underlying42
  have hi42 : (Try.prog.info? 42).map (·.size) = some 2 := by kernel_rfl
  have BM := Aside0.mk (blk_alloc (blk_new w (.cells #[.int .i64 m.ty, .int .u32 m.xid, .string m.cl, .string m.sv, .slice Ai m.ias.length ci, .int .i64 m.code, .bool m.rap, .bool m.acc, .int .i64 m.again, .slice Ao m.opts.length co] 26)) (.cells #[.int .u16 o0, .string o1] 42))
  have BO := Aside0.mk (blk_new (w.alloc (.cells #[.int .i64 m.ty, .int .u32 m.xid, .string m.cl, .string m.sv, .slice Ai m.ias.length ci, .int .i64 m.code, .bool m.rap, .bool m.acc, .int .i64 m.again, .slice Ao m.opts.length co] 26)) (.cells #[.int .u16 o0, .string o1] 42))
  have HB := Aside0.mk (below_alloc (below_alloc (Below.refl _ w) (.cells #[.int .i64 m.ty, .int .u32 m.xid, .string m.cl, .string m.sv, .slice Ai m.ias.length ci, .int .i64 m.code, .bool m.rap, .bool m.acc, .int .i64 m.again, .slice Ao m.opts.length co] 26)) (.cells #[.int .u16 o0, .string o1] 42))
  go_enter Try.func7, Try.ntmps7
  go_upto_region 1 with fail
  (try simp only [World.size_alloc] at BO)
  generalize World.alloc (World.alloc w _) _ = W0 at BM BO HB ⊢
  obtain ⟨gm, hgm⟩ : ∃ gm, gm = w.heap.size := ⟨_, rfl⟩
  obtain ⟨go_, hgo⟩ : ∃ go_, go_ = w.heap.size + 1 := ⟨_, rfl⟩
  rw [← hgo] at BO
  rw [← hgm] at BM
  rw [← hgo]
  rw [show (Value.pointer (some ⟨w.heap.size, 0, none⟩)) = .pointer (some ⟨gm, 0, none⟩) by rw [hgm]]
  clear hgm hgo
  go_upto_region 4 with (first | (go_at_call 9; refine (tenancylaw16_awake.calls 30 true _ HAW.out).mono ?_; rintro e wb ⟨rfl, hb⟩; have BMb := Aside0.mk (blk_below BM.out hb); have BOb := Aside0.mk (blk_below BO.out hb); have HBb := Aside0.mk (below_step HB.out hb); clear hb) | ((with_reducible refine gate_dst (N := 17) rfl ?_); (try (refine gate_guard (by rfl) ?_; dsimp only)); refine XBox.loadL_ 17 rfl rfl 26 rfl gm rfl _ BMb.out hu26 rfl hi26 ?_; simp only [Act.put, List.setIfInBounds_toArray, List.set_cons_zero, List.set_cons_succ]) | (go_at_call 13; refine (wire6_Encode.calls k m.ty m.xid m.cl m.sv Ai ci m.ias m.code m.rap m.acc m.again Ao co m.opts es 0 _ (Kd.C_below HAI.out HBb.out) HCI.out (Kd.C_below HAO.out HBb.out) HCO.out HEN.out).mono ?_; rintro e wc ⟨rfl, hb⟩; have BMc := Aside0.mk (blk_below BMb.out hb); have BOc := Aside0.mk (blk_below BOb.out hb); have HBc := Aside0.mk (below_step HBb.out hb); clear hb))
  clear BM BMb BO BOb HB HBb
  go_upto_region 5 with (first | ((with_reducible refine gate_dst (N := 22) rfl ?_); refine XBox.loadL_ 22 rfl rfl 42 rfl go_ rfl _ BOc.out hu42 rfl hi42 ?_; simp only [Act.put, List.setIfInBounds_toArray, List.set_cons_zero, List.set_cons_succ]) | (go_at_call 20; have BX := blk_new wc (.cells #[.int .u16 o0, .string o1] 42); have BMd := Aside0.mk (blk_alloc BMc.out (.cells #[.int .u16 o0, .string o1] 42)); have BOd := Aside0.mk (blk_alloc BOc.out (.cells #[.int .u16 o0, .string o1] 42)); have HBd := Aside0.mk (below_alloc HBc.out (.cells #[.int .u16 o0, .string o1] 42)); refine (opt6_Emit.calls _ 1 [(⟨o0, o1⟩ : S42)] t 0 _ (optOne (o := ⟨o0, o1⟩) BX) (Nat.le_refl 1) HEM.out).mono ?_; rintro e we ⟨rfl, hb⟩; have BMe := Aside0.mk (blk_below BMd.out hb); have BOe := Aside0.mk (blk_below BOd.out hb); have HBe := Aside0.mk (below_step HBd.out hb); clear hb BX BMd BOd HBd))
  clear BMc BOc HBc
  have hz0 : (es.size : Int) + (t.size : Int) ≤ 65507 := by have := HSZ.out.2; omega
  have hz1 : ¬ (65507 : Int) < (es.size : Int) + (t.size : Int) := by omega
  have hz2 : wrap64 ((es.size : Int) + (t.size : Int)) = (es.size : Int) + (t.size : Int) := Go.IntWalk.wrap64_in _ (by omega)
  go_upto_region 7 with fail
  clear hz0 hz1 hz2
  have h41 : (4 ≤ es.size) = True := eq_true HSZ.out.1
  have h42 : ((4 : Int) ≤ (es.size : Int)) = True := eq_true (by have := HSZ.out.1; omega)
  go_upto_region 8 with (go_at_call 19; refine (opt6_Parse.calls k (es.extract 4 es.size) l pe _ HP.out).mono ?_; rintro e wp ⟨v0, rfl, RL, hb⟩; obtain ⟨Al, cl, rfl⟩ := Kd.R_slice RL; clear RL; have BMp := Aside0.mk (blk_below BMe.out hb); have BOp := Aside0.mk (blk_below BOe.out hb); have HBp := Aside0.mk (below_step HBe.out hb); clear hb)
  clear h41 h42 BMe BOe HBe
  have hs : es.size + t.size ≤ 9223372036854775807 := by have := HSZ.out.2; omega
  go_upto_region 9 with (go_at_call 17; refine (wire6_Decode.calls k (es ++ t) md 6 _ HD.out).mono ?_; rintro e wg ⟨vi, vo, rfl, RI, RO, hb⟩; obtain ⟨Aj, cj, rfl, hl1, hk1⟩ := Kd.R_reads RI; obtain ⟨Ap, cp, rfl, hl2, hk2⟩ := Kd.R_reads RO; have HJ := Aside0.mk (And.intro hl1 hk1); have HQ := Aside0.mk (And.intro hl2 hk2); clear RI RO hl1 hk1 hl2 hk2; dsimp only [Ms.row]; have BMg := Aside0.mk (blk_below BMp.out hb); have BOg := Aside0.mk (blk_below BOp.out hb); have HBg := Aside0.mk (below_step HBp.out hb); clear hb)
  clear hs BMp BOp HBp
  have BN := Aside0.mk (blk_new wg (.cells #[.int .i64 md.ty, .int .u32 md.xid, .string md.cl, .string md.sv, .slice Aj md.ias.length cj, .int .i64 md.code, .bool md.rap, .bool md.acc, .int .i64 md.again, .slice Ap md.opts.length cp] 26))
  have BMh := Aside0.mk (blk_alloc BMg.out (.cells #[.int .i64 md.ty, .int .u32 md.xid, .string md.cl, .string md.sv, .slice Aj md.ias.length cj, .int .i64 md.code, .bool md.rap, .bool md.acc, .int .i64 md.again, .slice Ap md.opts.length cp] 26))
  have BOh := Aside0.mk (blk_alloc BOg.out (.cells #[.int .i64 md.ty, .int .u32 md.xid, .string md.cl, .string md.sv, .slice Aj md.ias.length cj, .int .i64 md.code, .bool md.rap, .bool md.acc, .int .i64 md.again, .slice Ap md.opts.length cp] 26))
  have HBh := Aside0.mk (below_alloc HBg.out (.cells #[.int .i64 md.ty, .int .u32 md.xid, .string md.cl, .string md.sv, .slice Aj md.ias.length cj, .int .i64 md.code, .bool md.rap, .bool md.acc, .int .i64 md.again, .slice Ap md.opts.length cp] 26))
  have HJh := Aside0.mk (Kd.C_below HJ.out.2 (below_alloc (Below.refl _ wg) (.cells #[.int .i64 md.ty, .int .u32 md.xid, .string md.cl, .string md.sv, .slice Aj md.ias.length cj, .int .i64 md.code, .bool md.rap, .bool md.acc, .int .i64 md.again, .slice Ap md.opts.length cp] 26)))
  have HQh := Aside0.mk (Kd.C_below HQ.out.2 (below_alloc (Below.refl _ wg) (.cells #[.int .i64 md.ty, .int .u32 md.xid, .string md.cl, .string md.sv, .slice Aj md.ias.length cj, .int .i64 md.code, .bool md.rap, .bool md.acc, .int .i64 md.again, .slice Ap md.opts.length cp] 26)))
  clear BMg BOg HBg HJ HQ
  generalize wg.alloc (.cells #[.int .i64 md.ty, .int .u32 md.xid, .string md.cl, .string md.sv, .slice Aj md.ias.length cj, .int .i64 md.code, .bool md.rap, .bool md.acc, .int .i64 md.again, .slice Ap md.opts.length cp] 26) = wh at BN BMh BOh HBh HJh HQh ⊢
  generalize wg.heap.size = gn at BN ⊢
  have hl1 : (128 : Int) ≤ (l.length : Int) := by have := HL.out; omega
  go_wp2
  go_ret
  exact ⟨rfl, by first | exact HBh.out | exact below_drew1 HBh.out | exact pw_below_drewN HBh.out _⟩
set_option maxHeartbeats 8000000 in
set_option maxRecDepth 100000 in
theorem w6twice_once1t (k : Nat) (m : Ms) (Ai Ao : Option Addr) (ci co : Nat) (o1 : ByteArray) (w : World) (hai : Kd.C k51 w Ai m.ias.length m.ias) (hci : m.ias.length ≤ ci) (hao : Kd.C k42 w Ao m.opts.length m.opts) (hco : m.opts.length ≤ co)
    (haw : tenancylaw16_awake.f 30 = some true) (es t : ByteArray)  (hen : wire6_Encode.f k m.ty m.xid m.cl m.sv m.ias m.code m.rap m.acc m.again m.opts = some (es, 0)) (hem : opt6_Emit.f [(⟨1, o1⟩ : S42)] = some (t, 0)) (l : List S42) (pe : Int) (hp : opt6_Parse.f k (es.extract 4 es.size) = some (l, pe)) (md : Ms) (hd : wire6_Decode.f k (es ++ t) = some (md, 130)) (hsz : 4 ≤ es.size ∧ es.size + t.size ≤ 65507) (hl : l.length < 128) (hx : m.cl.toList.isEmpty = false) :
    Calls Try.prog 7 #[.agg #[.int .i64 m.ty, .int .u32 m.xid, .string m.cl, .string m.sv, .slice Ai m.ias.length ci, .int .i64 m.code, .bool m.rap, .bool m.acc, .int .i64 m.again, .slice Ao m.opts.length co], .agg #[.int .u16 1, .string o1]] w fun e w' => e = .returned (.bool true) ∧ Below w.heap.size w w' := by
  have hu26 := Try.underlying26
  have hi26 : (Try.prog.info? 26).map (·.size) = some 10 := by kernel_rfl
  have HAI := Aside0.mk hai
  have HCI := Aside0.mk hci
  have HAO := Aside0.mk hao
  have HCO := Aside0.mk hco
  have HAW := Aside0.mk haw
  have HEN := Aside0.mk hen
  have HEM := Aside0.mk hem
  have HP := Aside0.mk hp
  have HD := Aside0.mk hd
  have HSZ := Aside0.mk hsz
  have HL := Aside0.mk hl
  have HX := Aside0.mk hx
  clear hai hci hao hco haw hen hem hp hd hsz hl hx
  have hu42 := Try.underlying42
  have hi42 : (Try.prog.info? 42).map (·.size) = some 2 := by kernel_rfl
  have BM := Aside0.mk (blk_alloc (blk_new w (.cells #[.int .i64 m.ty, .int .u32 m.xid, .string m.cl, .string m.sv, .slice Ai m.ias.length ci, .int .i64 m.code, .bool m.rap, .bool m.acc, .int .i64 m.again, .slice Ao m.opts.length co] 26)) (.cells #[.int .u16 1, .string o1] 42))
  have BO := Aside0.mk (blk_new (w.alloc (.cells #[.int .i64 m.ty, .int .u32 m.xid, .string m.cl, .string m.sv, .slice Ai m.ias.length ci, .int .i64 m.code, .bool m.rap, .bool m.acc, .int .i64 m.again, .slice Ao m.opts.length co] 26)) (.cells #[.int .u16 1, .string o1] 42))
  have HB := Aside0.mk (below_alloc (below_alloc (Below.refl _ w) (.cells #[.int .i64 m.ty, .int .u32 m.xid, .string m.cl, .string m.sv, .slice Ai m.ias.length ci, .int .i64 m.code, .bool m.rap, .bool m.acc, .int .i64 m.again, .slice Ao m.opts.length co] 26)) (.cells #[.int .u16 1, .string o1] 42))
  go_enter Try.func7, Try.ntmps7
  go_upto_region 1 with fail
  (try simp only [World.size_alloc] at BO)
  generalize World.alloc (World.alloc w _) _ = W0 at BM BO HB ⊢
  obtain ⟨gm, hgm⟩ : ∃ gm, gm = w.heap.size := ⟨_, rfl⟩
  obtain ⟨go_, hgo⟩ : ∃ go_, go_ = w.heap.size + 1 := ⟨_, rfl⟩
  rw [← hgo] at BO
  rw [← hgm] at BM
  rw [← hgo]
  rw [show (Value.pointer (some ⟨w.heap.size, 0, none⟩)) = .pointer (some ⟨gm, 0, none⟩) by rw [hgm]]
  clear hgm hgo
  go_upto_region 4 with (first | (go_at_call 9; refine (tenancylaw16_awake.calls 30 true _ HAW.out).mono ?_; rintro e wb ⟨rfl, hb⟩; have BMb := Aside0.mk (blk_below BM.out hb); have BOb := Aside0.mk (blk_below BO.out hb); have HBb := Aside0.mk (below_step HB.out hb); clear hb) | ((with_reducible refine gate_dst (N := 17) rfl ?_); (try (refine gate_guard (by rfl) ?_; dsimp only)); refine XBox.loadL_ 17 rfl rfl 26 rfl gm rfl _ BMb.out hu26 rfl hi26 ?_; simp only [Act.put, List.setIfInBounds_toArray, List.set_cons_zero, List.set_cons_succ]) | (go_at_call 13; refine (wire6_Encode.calls k m.ty m.xid m.cl m.sv Ai ci m.ias m.code m.rap m.acc m.again Ao co m.opts es 0 _ (Kd.C_below HAI.out HBb.out) HCI.out (Kd.C_below HAO.out HBb.out) HCO.out HEN.out).mono ?_; rintro e wc ⟨rfl, hb⟩; have BMc := Aside0.mk (blk_below BMb.out hb); have BOc := Aside0.mk (blk_below BOb.out hb); have HBc := Aside0.mk (below_step HBb.out hb); clear hb))
  clear BM BMb BO BOb HB HBb
  go_upto_region 5 with (first | ((with_reducible refine gate_dst (N := 22) rfl ?_); refine XBox.loadL_ 22 rfl rfl 42 rfl go_ rfl _ BOc.out hu42 rfl hi42 ?_; simp only [Act.put, List.setIfInBounds_toArray, List.set_cons_zero, List.set_cons_succ]) | (go_at_call 20; have BX := blk_new wc (.cells #[.int .u16 1, .string o1] 42); have BMd := Aside0.mk (blk_alloc BMc.out (.cells #[.int .u16 1, .string o1] 42)); have BOd := Aside0.mk (blk_alloc BOc.out (.cells #[.int .u16 1, .string o1] 42)); have HBd := Aside0.mk (below_alloc HBc.out (.cells #[.int .u16 1, .string o1] 42)); refine (opt6_Emit.calls _ 1 [(⟨1, o1⟩ : S42)] t 0 _ (optOne (o := ⟨1, o1⟩) BX) (Nat.le_refl 1) HEM.out).mono ?_; rintro e we ⟨rfl, hb⟩; have BMe := Aside0.mk (blk_below BMd.out hb); have BOe := Aside0.mk (blk_below BOd.out hb); have HBe := Aside0.mk (below_step HBd.out hb); clear hb BX BMd BOd HBd))
  clear BMc BOc HBc
  have hz0 : (es.size : Int) + (t.size : Int) ≤ 65507 := by have := HSZ.out.2; omega
  have hz1 : ¬ (65507 : Int) < (es.size : Int) + (t.size : Int) := by omega
  have hz2 : wrap64 ((es.size : Int) + (t.size : Int)) = (es.size : Int) + (t.size : Int) := Go.IntWalk.wrap64_in _ (by omega)
  go_upto_region 7 with fail
  clear hz0 hz1 hz2
  have h41 : (4 ≤ es.size) = True := eq_true HSZ.out.1
  have h42 : ((4 : Int) ≤ (es.size : Int)) = True := eq_true (by have := HSZ.out.1; omega)
  go_upto_region 8 with (go_at_call 19; refine (opt6_Parse.calls k (es.extract 4 es.size) l pe _ HP.out).mono ?_; rintro e wp ⟨v0, rfl, RL, hb⟩; obtain ⟨Al, cl, rfl⟩ := Kd.R_slice RL; clear RL; have BMp := Aside0.mk (blk_below BMe.out hb); have BOp := Aside0.mk (blk_below BOe.out hb); have HBp := Aside0.mk (below_step HBe.out hb); clear hb)
  clear h41 h42 BMe BOe HBe
  have hs : es.size + t.size ≤ 9223372036854775807 := by have := HSZ.out.2; omega
  go_upto_region 9 with (go_at_call 17; refine (wire6_Decode.calls k (es ++ t) md 130 _ HD.out).mono ?_; rintro e wg ⟨vi, vo, rfl, RI, RO, hb⟩; obtain ⟨Aj, cj, rfl, hl1, hk1⟩ := Kd.R_reads RI; obtain ⟨Ap, cp, rfl, hl2, hk2⟩ := Kd.R_reads RO; have HJ := Aside0.mk (And.intro hl1 hk1); have HQ := Aside0.mk (And.intro hl2 hk2); clear RI RO hl1 hk1 hl2 hk2; dsimp only [Ms.row]; have BMg := Aside0.mk (blk_below BMp.out hb); have BOg := Aside0.mk (blk_below BOp.out hb); have HBg := Aside0.mk (below_step HBp.out hb); clear hb)
  clear hs BMp BOp HBp
  have BN := Aside0.mk (blk_new wg (.cells #[.int .i64 md.ty, .int .u32 md.xid, .string md.cl, .string md.sv, .slice Aj md.ias.length cj, .int .i64 md.code, .bool md.rap, .bool md.acc, .int .i64 md.again, .slice Ap md.opts.length cp] 26))
  have BMh := Aside0.mk (blk_alloc BMg.out (.cells #[.int .i64 md.ty, .int .u32 md.xid, .string md.cl, .string md.sv, .slice Aj md.ias.length cj, .int .i64 md.code, .bool md.rap, .bool md.acc, .int .i64 md.again, .slice Ap md.opts.length cp] 26))
  have BOh := Aside0.mk (blk_alloc BOg.out (.cells #[.int .i64 md.ty, .int .u32 md.xid, .string md.cl, .string md.sv, .slice Aj md.ias.length cj, .int .i64 md.code, .bool md.rap, .bool md.acc, .int .i64 md.again, .slice Ap md.opts.length cp] 26))
  have HBh := Aside0.mk (below_alloc HBg.out (.cells #[.int .i64 md.ty, .int .u32 md.xid, .string md.cl, .string md.sv, .slice Aj md.ias.length cj, .int .i64 md.code, .bool md.rap, .bool md.acc, .int .i64 md.again, .slice Ap md.opts.length cp] 26))
  have HJh := Aside0.mk (Kd.C_below HJ.out.2 (below_alloc (Below.refl _ wg) (.cells #[.int .i64 md.ty, .int .u32 md.xid, .string md.cl, .string md.sv, .slice Aj md.ias.length cj, .int .i64 md.code, .bool md.rap, .bool md.acc, .int .i64 md.again, .slice Ap md.opts.length cp] 26)))
  have HQh := Aside0.mk (Kd.C_below HQ.out.2 (below_alloc (Below.refl _ wg) (.cells #[.int .i64 md.ty, .int .u32 md.xid, .string md.cl, .string md.sv, .slice Aj md.ias.length cj, .int .i64 md.code, .bool md.rap, .bool md.acc, .int .i64 md.again, .slice Ap md.opts.length cp] 26)))
  clear BMg BOg HBg HJ HQ
  generalize wg.alloc (.cells #[.int .i64 md.ty, .int .u32 md.xid, .string md.cl, .string md.sv, .slice Aj md.ias.length cj, .int .i64 md.code, .bool md.rap, .bool md.acc, .int .i64 md.again, .slice Ap md.opts.length cp] 26) = wh at BN BMh BOh HBh HJh HQh ⊢
  generalize wg.heap.size = gn at BN ⊢
  have hl1 := HL.out
  have hl2 : ¬ (128 : Int) ≤ (l.length : Int) := by omega
  have hl3 : (l.length : Int) < 128 := by omega
  have hm2 : wh.cell? ⟨gm, 2, none⟩ = some (.string m.cl) := (blk_cell BMh.out 2).trans rfl
  have hm3 : wh.cell? ⟨gm, 3, none⟩ = some (.string m.sv) := (blk_cell BMh.out 3).trans rfl
  have hm5 : wh.cell? ⟨gm, 5, none⟩ = some (.int .i64 m.code) := (blk_cell BMh.out 5).trans rfl
  have hm6 : wh.cell? ⟨gm, 6, none⟩ = some (.bool m.rap) := (blk_cell BMh.out 6).trans rfl
  have hm7 : wh.cell? ⟨gm, 7, none⟩ = some (.bool m.acc) := (blk_cell BMh.out 7).trans rfl
  have hm8 : wh.cell? ⟨gm, 8, none⟩ = some (.int .i64 m.again) := (blk_cell BMh.out 8).trans rfl
  have ho0 : wh.cell? ⟨go_, 0, none⟩ = some (.int .u16 1) := (blk_cell BOh.out 0).trans rfl
  have hx := HX.out
  go_wp2
  go_ret
  exact ⟨rfl, by first | exact HBh.out | exact below_drew1 HBh.out | exact pw_below_drewN HBh.out _⟩
set_option maxHeartbeats 8000000 in
set_option maxRecDepth 100000 in
theorem w6twice_once1f (k : Nat) (m : Ms) (Ai Ao : Option Addr) (ci co : Nat) (o1 : ByteArray) (w : World) (hai : Kd.C k51 w Ai m.ias.length m.ias) (hci : m.ias.length ≤ ci) (hao : Kd.C k42 w Ao m.opts.length m.opts) (hco : m.opts.length ≤ co)
    (haw : tenancylaw16_awake.f 30 = some true) (es t : ByteArray)  (hen : wire6_Encode.f k m.ty m.xid m.cl m.sv m.ias m.code m.rap m.acc m.again m.opts = some (es, 0)) (hem : opt6_Emit.f [(⟨1, o1⟩ : S42)] = some (t, 0)) (l : List S42) (pe : Int) (hp : opt6_Parse.f k (es.extract 4 es.size) = some (l, pe)) (md : Ms) (er : Int) (hd : wire6_Decode.f k (es ++ t) = some (md, er)) (hsz : 4 ≤ es.size ∧ es.size + t.size ≤ 65507) (hl : l.length < 128) (hx : m.cl.toList.isEmpty = true) :
    Calls Try.prog 7 #[.agg #[.int .i64 m.ty, .int .u32 m.xid, .string m.cl, .string m.sv, .slice Ai m.ias.length ci, .int .i64 m.code, .bool m.rap, .bool m.acc, .int .i64 m.again, .slice Ao m.opts.length co], .agg #[.int .u16 1, .string o1]] w fun e w' => e = .returned (.bool true) ∧ Below w.heap.size w w' := by
  have hu26 := Try.underlying26
  have hi26 : (Try.prog.info? 26).map (·.size) = some 10 := by kernel_rfl
  have HAI := Aside0.mk hai
  have HCI := Aside0.mk hci
  have HAO := Aside0.mk hao
  have HCO := Aside0.mk hco
  have HAW := Aside0.mk haw
  have HEN := Aside0.mk hen
  have HEM := Aside0.mk hem
  have HP := Aside0.mk hp
  have HD := Aside0.mk hd
  have HSZ := Aside0.mk hsz
  have HL := Aside0.mk hl
  have HX := Aside0.mk hx
  clear hai hci hao hco haw hen hem hp hd hsz hl hx
  have hu42 := Try.underlying42
  have hi42 : (Try.prog.info? 42).map (·.size) = some 2 := by kernel_rfl
  have BM := Aside0.mk (blk_alloc (blk_new w (.cells #[.int .i64 m.ty, .int .u32 m.xid, .string m.cl, .string m.sv, .slice Ai m.ias.length ci, .int .i64 m.code, .bool m.rap, .bool m.acc, .int .i64 m.again, .slice Ao m.opts.length co] 26)) (.cells #[.int .u16 1, .string o1] 42))
  have BO := Aside0.mk (blk_new (w.alloc (.cells #[.int .i64 m.ty, .int .u32 m.xid, .string m.cl, .string m.sv, .slice Ai m.ias.length ci, .int .i64 m.code, .bool m.rap, .bool m.acc, .int .i64 m.again, .slice Ao m.opts.length co] 26)) (.cells #[.int .u16 1, .string o1] 42))
  have HB := Aside0.mk (below_alloc (below_alloc (Below.refl _ w) (.cells #[.int .i64 m.ty, .int .u32 m.xid, .string m.cl, .string m.sv, .slice Ai m.ias.length ci, .int .i64 m.code, .bool m.rap, .bool m.acc, .int .i64 m.again, .slice Ao m.opts.length co] 26)) (.cells #[.int .u16 1, .string o1] 42))
  go_enter Try.func7, Try.ntmps7
  go_upto_region 1 with fail
  (try simp only [World.size_alloc] at BO)
  generalize World.alloc (World.alloc w _) _ = W0 at BM BO HB ⊢
  obtain ⟨gm, hgm⟩ : ∃ gm, gm = w.heap.size := ⟨_, rfl⟩
  obtain ⟨go_, hgo⟩ : ∃ go_, go_ = w.heap.size + 1 := ⟨_, rfl⟩
  rw [← hgo] at BO
  rw [← hgm] at BM
  rw [← hgo]
  rw [show (Value.pointer (some ⟨w.heap.size, 0, none⟩)) = .pointer (some ⟨gm, 0, none⟩) by rw [hgm]]
  clear hgm hgo
  go_upto_region 4 with (first | (go_at_call 9; refine (tenancylaw16_awake.calls 30 true _ HAW.out).mono ?_; rintro e wb ⟨rfl, hb⟩; have BMb := Aside0.mk (blk_below BM.out hb); have BOb := Aside0.mk (blk_below BO.out hb); have HBb := Aside0.mk (below_step HB.out hb); clear hb) | ((with_reducible refine gate_dst (N := 17) rfl ?_); (try (refine gate_guard (by rfl) ?_; dsimp only)); refine XBox.loadL_ 17 rfl rfl 26 rfl gm rfl _ BMb.out hu26 rfl hi26 ?_; simp only [Act.put, List.setIfInBounds_toArray, List.set_cons_zero, List.set_cons_succ]) | (go_at_call 13; refine (wire6_Encode.calls k m.ty m.xid m.cl m.sv Ai ci m.ias m.code m.rap m.acc m.again Ao co m.opts es 0 _ (Kd.C_below HAI.out HBb.out) HCI.out (Kd.C_below HAO.out HBb.out) HCO.out HEN.out).mono ?_; rintro e wc ⟨rfl, hb⟩; have BMc := Aside0.mk (blk_below BMb.out hb); have BOc := Aside0.mk (blk_below BOb.out hb); have HBc := Aside0.mk (below_step HBb.out hb); clear hb))
  clear BM BMb BO BOb HB HBb
  go_upto_region 5 with (first | ((with_reducible refine gate_dst (N := 22) rfl ?_); refine XBox.loadL_ 22 rfl rfl 42 rfl go_ rfl _ BOc.out hu42 rfl hi42 ?_; simp only [Act.put, List.setIfInBounds_toArray, List.set_cons_zero, List.set_cons_succ]) | (go_at_call 20; have BX := blk_new wc (.cells #[.int .u16 1, .string o1] 42); have BMd := Aside0.mk (blk_alloc BMc.out (.cells #[.int .u16 1, .string o1] 42)); have BOd := Aside0.mk (blk_alloc BOc.out (.cells #[.int .u16 1, .string o1] 42)); have HBd := Aside0.mk (below_alloc HBc.out (.cells #[.int .u16 1, .string o1] 42)); refine (opt6_Emit.calls _ 1 [(⟨1, o1⟩ : S42)] t 0 _ (optOne (o := ⟨1, o1⟩) BX) (Nat.le_refl 1) HEM.out).mono ?_; rintro e we ⟨rfl, hb⟩; have BMe := Aside0.mk (blk_below BMd.out hb); have BOe := Aside0.mk (blk_below BOd.out hb); have HBe := Aside0.mk (below_step HBd.out hb); clear hb BX BMd BOd HBd))
  clear BMc BOc HBc
  have hz0 : (es.size : Int) + (t.size : Int) ≤ 65507 := by have := HSZ.out.2; omega
  have hz1 : ¬ (65507 : Int) < (es.size : Int) + (t.size : Int) := by omega
  have hz2 : wrap64 ((es.size : Int) + (t.size : Int)) = (es.size : Int) + (t.size : Int) := Go.IntWalk.wrap64_in _ (by omega)
  go_upto_region 7 with fail
  clear hz0 hz1 hz2
  have h41 : (4 ≤ es.size) = True := eq_true HSZ.out.1
  have h42 : ((4 : Int) ≤ (es.size : Int)) = True := eq_true (by have := HSZ.out.1; omega)
  go_upto_region 8 with (go_at_call 19; refine (opt6_Parse.calls k (es.extract 4 es.size) l pe _ HP.out).mono ?_; rintro e wp ⟨v0, rfl, RL, hb⟩; obtain ⟨Al, cl, rfl⟩ := Kd.R_slice RL; clear RL; have BMp := Aside0.mk (blk_below BMe.out hb); have BOp := Aside0.mk (blk_below BOe.out hb); have HBp := Aside0.mk (below_step HBe.out hb); clear hb)
  clear h41 h42 BMe BOe HBe
  have hs : es.size + t.size ≤ 9223372036854775807 := by have := HSZ.out.2; omega
  go_upto_region 9 with (go_at_call 17; refine (wire6_Decode.calls k (es ++ t) md er _ HD.out).mono ?_; rintro e wg ⟨vi, vo, rfl, RI, RO, hb⟩; obtain ⟨Aj, cj, rfl, hl1, hk1⟩ := Kd.R_reads RI; obtain ⟨Ap, cp, rfl, hl2, hk2⟩ := Kd.R_reads RO; have HJ := Aside0.mk (And.intro hl1 hk1); have HQ := Aside0.mk (And.intro hl2 hk2); clear RI RO hl1 hk1 hl2 hk2; dsimp only [Ms.row]; have BMg := Aside0.mk (blk_below BMp.out hb); have BOg := Aside0.mk (blk_below BOp.out hb); have HBg := Aside0.mk (below_step HBp.out hb); clear hb)
  clear hs BMp BOp HBp
  have BN := Aside0.mk (blk_new wg (.cells #[.int .i64 md.ty, .int .u32 md.xid, .string md.cl, .string md.sv, .slice Aj md.ias.length cj, .int .i64 md.code, .bool md.rap, .bool md.acc, .int .i64 md.again, .slice Ap md.opts.length cp] 26))
  have BMh := Aside0.mk (blk_alloc BMg.out (.cells #[.int .i64 md.ty, .int .u32 md.xid, .string md.cl, .string md.sv, .slice Aj md.ias.length cj, .int .i64 md.code, .bool md.rap, .bool md.acc, .int .i64 md.again, .slice Ap md.opts.length cp] 26))
  have BOh := Aside0.mk (blk_alloc BOg.out (.cells #[.int .i64 md.ty, .int .u32 md.xid, .string md.cl, .string md.sv, .slice Aj md.ias.length cj, .int .i64 md.code, .bool md.rap, .bool md.acc, .int .i64 md.again, .slice Ap md.opts.length cp] 26))
  have HBh := Aside0.mk (below_alloc HBg.out (.cells #[.int .i64 md.ty, .int .u32 md.xid, .string md.cl, .string md.sv, .slice Aj md.ias.length cj, .int .i64 md.code, .bool md.rap, .bool md.acc, .int .i64 md.again, .slice Ap md.opts.length cp] 26))
  have HJh := Aside0.mk (Kd.C_below HJ.out.2 (below_alloc (Below.refl _ wg) (.cells #[.int .i64 md.ty, .int .u32 md.xid, .string md.cl, .string md.sv, .slice Aj md.ias.length cj, .int .i64 md.code, .bool md.rap, .bool md.acc, .int .i64 md.again, .slice Ap md.opts.length cp] 26)))
  have HQh := Aside0.mk (Kd.C_below HQ.out.2 (below_alloc (Below.refl _ wg) (.cells #[.int .i64 md.ty, .int .u32 md.xid, .string md.cl, .string md.sv, .slice Aj md.ias.length cj, .int .i64 md.code, .bool md.rap, .bool md.acc, .int .i64 md.again, .slice Ap md.opts.length cp] 26)))
  clear BMg BOg HBg HJ HQ
  generalize wg.alloc (.cells #[.int .i64 md.ty, .int .u32 md.xid, .string md.cl, .string md.sv, .slice Aj md.ias.length cj, .int .i64 md.code, .bool md.rap, .bool md.acc, .int .i64 md.again, .slice Ap md.opts.length cp] 26) = wh at BN BMh BOh HBh HJh HQh ⊢
  generalize wg.heap.size = gn at BN ⊢
  have hl1 := HL.out
  have hl2 : ¬ (128 : Int) ≤ (l.length : Int) := by omega
  have hl3 : (l.length : Int) < 128 := by omega
  have hm2 : wh.cell? ⟨gm, 2, none⟩ = some (.string m.cl) := (blk_cell BMh.out 2).trans rfl
  have hm3 : wh.cell? ⟨gm, 3, none⟩ = some (.string m.sv) := (blk_cell BMh.out 3).trans rfl
  have hm5 : wh.cell? ⟨gm, 5, none⟩ = some (.int .i64 m.code) := (blk_cell BMh.out 5).trans rfl
  have hm6 : wh.cell? ⟨gm, 6, none⟩ = some (.bool m.rap) := (blk_cell BMh.out 6).trans rfl
  have hm7 : wh.cell? ⟨gm, 7, none⟩ = some (.bool m.acc) := (blk_cell BMh.out 7).trans rfl
  have hm8 : wh.cell? ⟨gm, 8, none⟩ = some (.int .i64 m.again) := (blk_cell BMh.out 8).trans rfl
  have ho0 : wh.cell? ⟨go_, 0, none⟩ = some (.int .u16 1) := (blk_cell BOh.out 0).trans rfl
  have hx := HX.out
  go_wp2
  go_ret
  exact ⟨rfl, by first | exact HBh.out | exact below_drew1 HBh.out | exact pw_below_drewN HBh.out _⟩
set_option maxHeartbeats 8000000 in
set_option maxRecDepth 100000 in
theorem w6twice_once2t (k : Nat) (m : Ms) (Ai Ao : Option Addr) (ci co : Nat) (o1 : ByteArray) (w : World) (hai : Kd.C k51 w Ai m.ias.length m.ias) (hci : m.ias.length ≤ ci) (hao : Kd.C k42 w Ao m.opts.length m.opts) (hco : m.opts.length ≤ co)
    (haw : tenancylaw16_awake.f 30 = some true) (es t : ByteArray)  (hen : wire6_Encode.f k m.ty m.xid m.cl m.sv m.ias m.code m.rap m.acc m.again m.opts = some (es, 0)) (hem : opt6_Emit.f [(⟨2, o1⟩ : S42)] = some (t, 0)) (l : List S42) (pe : Int) (hp : opt6_Parse.f k (es.extract 4 es.size) = some (l, pe)) (md : Ms) (hd : wire6_Decode.f k (es ++ t) = some (md, 130)) (hsz : 4 ≤ es.size ∧ es.size + t.size ≤ 65507) (hl : l.length < 128) (hx : m.sv.toList.isEmpty = false) :
    Calls Try.prog 7 #[.agg #[.int .i64 m.ty, .int .u32 m.xid, .string m.cl, .string m.sv, .slice Ai m.ias.length ci, .int .i64 m.code, .bool m.rap, .bool m.acc, .int .i64 m.again, .slice Ao m.opts.length co], .agg #[.int .u16 2, .string o1]] w fun e w' => e = .returned (.bool true) ∧ Below w.heap.size w w' := by
  have hu26 := Try.underlying26
  have hi26 : (Try.prog.info? 26).map (·.size) = some 10 := by kernel_rfl
  have HAI := Aside0.mk hai
  have HCI := Aside0.mk hci
  have HAO := Aside0.mk hao
  have HCO := Aside0.mk hco
  have HAW := Aside0.mk haw
  have HEN := Aside0.mk hen
  have HEM := Aside0.mk hem
  have HP := Aside0.mk hp
  have HD := Aside0.mk hd
  have HSZ := Aside0.mk hsz
  have HL := Aside0.mk hl
  have HX := Aside0.mk hx
  clear hai hci hao hco haw hen hem hp hd hsz hl hx
  have hu42 := Try.underlying42
  have hi42 : (Try.prog.info? 42).map (·.size) = some 2 := by kernel_rfl
  have BM := Aside0.mk (blk_alloc (blk_new w (.cells #[.int .i64 m.ty, .int .u32 m.xid, .string m.cl, .string m.sv, .slice Ai m.ias.length ci, .int .i64 m.code, .bool m.rap, .bool m.acc, .int .i64 m.again, .slice Ao m.opts.length co] 26)) (.cells #[.int .u16 2, .string o1] 42))
  have BO := Aside0.mk (blk_new (w.alloc (.cells #[.int .i64 m.ty, .int .u32 m.xid, .string m.cl, .string m.sv, .slice Ai m.ias.length ci, .int .i64 m.code, .bool m.rap, .bool m.acc, .int .i64 m.again, .slice Ao m.opts.length co] 26)) (.cells #[.int .u16 2, .string o1] 42))
  have HB := Aside0.mk (below_alloc (below_alloc (Below.refl _ w) (.cells #[.int .i64 m.ty, .int .u32 m.xid, .string m.cl, .string m.sv, .slice Ai m.ias.length ci, .int .i64 m.code, .bool m.rap, .bool m.acc, .int .i64 m.again, .slice Ao m.opts.length co] 26)) (.cells #[.int .u16 2, .string o1] 42))
  go_enter Try.func7, Try.ntmps7
  go_upto_region 1 with fail
  (try simp only [World.size_alloc] at BO)
  generalize World.alloc (World.alloc w _) _ = W0 at BM BO HB ⊢
  obtain ⟨gm, hgm⟩ : ∃ gm, gm = w.heap.size := ⟨_, rfl⟩
  obtain ⟨go_, hgo⟩ : ∃ go_, go_ = w.heap.size + 1 := ⟨_, rfl⟩
  rw [← hgo] at BO
  rw [← hgm] at BM
  rw [← hgo]
  rw [show (Value.pointer (some ⟨w.heap.size, 0, none⟩)) = .pointer (some ⟨gm, 0, none⟩) by rw [hgm]]
  clear hgm hgo
  go_upto_region 4 with (first | (go_at_call 9; refine (tenancylaw16_awake.calls 30 true _ HAW.out).mono ?_; rintro e wb ⟨rfl, hb⟩; have BMb := Aside0.mk (blk_below BM.out hb); have BOb := Aside0.mk (blk_below BO.out hb); have HBb := Aside0.mk (below_step HB.out hb); clear hb) | ((with_reducible refine gate_dst (N := 17) rfl ?_); (try (refine gate_guard (by rfl) ?_; dsimp only)); refine XBox.loadL_ 17 rfl rfl 26 rfl gm rfl _ BMb.out hu26 rfl hi26 ?_; simp only [Act.put, List.setIfInBounds_toArray, List.set_cons_zero, List.set_cons_succ]) | (go_at_call 13; refine (wire6_Encode.calls k m.ty m.xid m.cl m.sv Ai ci m.ias m.code m.rap m.acc m.again Ao co m.opts es 0 _ (Kd.C_below HAI.out HBb.out) HCI.out (Kd.C_below HAO.out HBb.out) HCO.out HEN.out).mono ?_; rintro e wc ⟨rfl, hb⟩; have BMc := Aside0.mk (blk_below BMb.out hb); have BOc := Aside0.mk (blk_below BOb.out hb); have HBc := Aside0.mk (below_step HBb.out hb); clear hb))
  clear BM BMb BO BOb HB HBb
  go_upto_region 5 with (first | ((with_reducible refine gate_dst (N := 22) rfl ?_); refine XBox.loadL_ 22 rfl rfl 42 rfl go_ rfl _ BOc.out hu42 rfl hi42 ?_; simp only [Act.put, List.setIfInBounds_toArray, List.set_cons_zero, List.set_cons_succ]) | (go_at_call 20; have BX := blk_new wc (.cells #[.int .u16 2, .string o1] 42); have BMd := Aside0.mk (blk_alloc BMc.out (.cells #[.int .u16 2, .string o1] 42)); have BOd := Aside0.mk (blk_alloc BOc.out (.cells #[.int .u16 2, .string o1] 42)); have HBd := Aside0.mk (below_alloc HBc.out (.cells #[.int .u16 2, .string o1] 42)); refine (opt6_Emit.calls _ 1 [(⟨2, o1⟩ : S42)] t 0 _ (optOne (o := ⟨2, o1⟩) BX) (Nat.le_refl 1) HEM.out).mono ?_; rintro e we ⟨rfl, hb⟩; have BMe := Aside0.mk (blk_below BMd.out hb); have BOe := Aside0.mk (blk_below BOd.out hb); have HBe := Aside0.mk (below_step HBd.out hb); clear hb BX BMd BOd HBd))
  clear BMc BOc HBc
  have hz0 : (es.size : Int) + (t.size : Int) ≤ 65507 := by have := HSZ.out.2; omega
  have hz1 : ¬ (65507 : Int) < (es.size : Int) + (t.size : Int) := by omega
  have hz2 : wrap64 ((es.size : Int) + (t.size : Int)) = (es.size : Int) + (t.size : Int) := Go.IntWalk.wrap64_in _ (by omega)
  go_upto_region 7 with fail
  clear hz0 hz1 hz2
  have h41 : (4 ≤ es.size) = True := eq_true HSZ.out.1
  have h42 : ((4 : Int) ≤ (es.size : Int)) = True := eq_true (by have := HSZ.out.1; omega)
  go_upto_region 8 with (go_at_call 19; refine (opt6_Parse.calls k (es.extract 4 es.size) l pe _ HP.out).mono ?_; rintro e wp ⟨v0, rfl, RL, hb⟩; obtain ⟨Al, cl, rfl⟩ := Kd.R_slice RL; clear RL; have BMp := Aside0.mk (blk_below BMe.out hb); have BOp := Aside0.mk (blk_below BOe.out hb); have HBp := Aside0.mk (below_step HBe.out hb); clear hb)
  clear h41 h42 BMe BOe HBe
  have hs : es.size + t.size ≤ 9223372036854775807 := by have := HSZ.out.2; omega
  go_upto_region 9 with (go_at_call 17; refine (wire6_Decode.calls k (es ++ t) md 130 _ HD.out).mono ?_; rintro e wg ⟨vi, vo, rfl, RI, RO, hb⟩; obtain ⟨Aj, cj, rfl, hl1, hk1⟩ := Kd.R_reads RI; obtain ⟨Ap, cp, rfl, hl2, hk2⟩ := Kd.R_reads RO; have HJ := Aside0.mk (And.intro hl1 hk1); have HQ := Aside0.mk (And.intro hl2 hk2); clear RI RO hl1 hk1 hl2 hk2; dsimp only [Ms.row]; have BMg := Aside0.mk (blk_below BMp.out hb); have BOg := Aside0.mk (blk_below BOp.out hb); have HBg := Aside0.mk (below_step HBp.out hb); clear hb)
  clear hs BMp BOp HBp
  have BN := Aside0.mk (blk_new wg (.cells #[.int .i64 md.ty, .int .u32 md.xid, .string md.cl, .string md.sv, .slice Aj md.ias.length cj, .int .i64 md.code, .bool md.rap, .bool md.acc, .int .i64 md.again, .slice Ap md.opts.length cp] 26))
  have BMh := Aside0.mk (blk_alloc BMg.out (.cells #[.int .i64 md.ty, .int .u32 md.xid, .string md.cl, .string md.sv, .slice Aj md.ias.length cj, .int .i64 md.code, .bool md.rap, .bool md.acc, .int .i64 md.again, .slice Ap md.opts.length cp] 26))
  have BOh := Aside0.mk (blk_alloc BOg.out (.cells #[.int .i64 md.ty, .int .u32 md.xid, .string md.cl, .string md.sv, .slice Aj md.ias.length cj, .int .i64 md.code, .bool md.rap, .bool md.acc, .int .i64 md.again, .slice Ap md.opts.length cp] 26))
  have HBh := Aside0.mk (below_alloc HBg.out (.cells #[.int .i64 md.ty, .int .u32 md.xid, .string md.cl, .string md.sv, .slice Aj md.ias.length cj, .int .i64 md.code, .bool md.rap, .bool md.acc, .int .i64 md.again, .slice Ap md.opts.length cp] 26))
  have HJh := Aside0.mk (Kd.C_below HJ.out.2 (below_alloc (Below.refl _ wg) (.cells #[.int .i64 md.ty, .int .u32 md.xid, .string md.cl, .string md.sv, .slice Aj md.ias.length cj, .int .i64 md.code, .bool md.rap, .bool md.acc, .int .i64 md.again, .slice Ap md.opts.length cp] 26)))
  have HQh := Aside0.mk (Kd.C_below HQ.out.2 (below_alloc (Below.refl _ wg) (.cells #[.int .i64 md.ty, .int .u32 md.xid, .string md.cl, .string md.sv, .slice Aj md.ias.length cj, .int .i64 md.code, .bool md.rap, .bool md.acc, .int .i64 md.again, .slice Ap md.opts.length cp] 26)))
  clear BMg BOg HBg HJ HQ
  generalize wg.alloc (.cells #[.int .i64 md.ty, .int .u32 md.xid, .string md.cl, .string md.sv, .slice Aj md.ias.length cj, .int .i64 md.code, .bool md.rap, .bool md.acc, .int .i64 md.again, .slice Ap md.opts.length cp] 26) = wh at BN BMh BOh HBh HJh HQh ⊢
  generalize wg.heap.size = gn at BN ⊢
  have hl1 := HL.out
  have hl2 : ¬ (128 : Int) ≤ (l.length : Int) := by omega
  have hl3 : (l.length : Int) < 128 := by omega
  have hm2 : wh.cell? ⟨gm, 2, none⟩ = some (.string m.cl) := (blk_cell BMh.out 2).trans rfl
  have hm3 : wh.cell? ⟨gm, 3, none⟩ = some (.string m.sv) := (blk_cell BMh.out 3).trans rfl
  have hm5 : wh.cell? ⟨gm, 5, none⟩ = some (.int .i64 m.code) := (blk_cell BMh.out 5).trans rfl
  have hm6 : wh.cell? ⟨gm, 6, none⟩ = some (.bool m.rap) := (blk_cell BMh.out 6).trans rfl
  have hm7 : wh.cell? ⟨gm, 7, none⟩ = some (.bool m.acc) := (blk_cell BMh.out 7).trans rfl
  have hm8 : wh.cell? ⟨gm, 8, none⟩ = some (.int .i64 m.again) := (blk_cell BMh.out 8).trans rfl
  have ho0 : wh.cell? ⟨go_, 0, none⟩ = some (.int .u16 2) := (blk_cell BOh.out 0).trans rfl
  have hx := HX.out
  go_wp2
  go_ret
  exact ⟨rfl, by first | exact HBh.out | exact below_drew1 HBh.out | exact pw_below_drewN HBh.out _⟩
set_option maxHeartbeats 8000000 in
set_option maxRecDepth 100000 in
theorem w6twice_once2f (k : Nat) (m : Ms) (Ai Ao : Option Addr) (ci co : Nat) (o1 : ByteArray) (w : World) (hai : Kd.C k51 w Ai m.ias.length m.ias) (hci : m.ias.length ≤ ci) (hao : Kd.C k42 w Ao m.opts.length m.opts) (hco : m.opts.length ≤ co)
    (haw : tenancylaw16_awake.f 30 = some true) (es t : ByteArray)  (hen : wire6_Encode.f k m.ty m.xid m.cl m.sv m.ias m.code m.rap m.acc m.again m.opts = some (es, 0)) (hem : opt6_Emit.f [(⟨2, o1⟩ : S42)] = some (t, 0)) (l : List S42) (pe : Int) (hp : opt6_Parse.f k (es.extract 4 es.size) = some (l, pe)) (md : Ms) (er : Int) (hd : wire6_Decode.f k (es ++ t) = some (md, er)) (hsz : 4 ≤ es.size ∧ es.size + t.size ≤ 65507) (hl : l.length < 128) (hx : m.sv.toList.isEmpty = true) :
    Calls Try.prog 7 #[.agg #[.int .i64 m.ty, .int .u32 m.xid, .string m.cl, .string m.sv, .slice Ai m.ias.length ci, .int .i64 m.code, .bool m.rap, .bool m.acc, .int .i64 m.again, .slice Ao m.opts.length co], .agg #[.int .u16 2, .string o1]] w fun e w' => e = .returned (.bool true) ∧ Below w.heap.size w w' := by
  have hu26 := Try.underlying26
  have hi26 : (Try.prog.info? 26).map (·.size) = some 10 := by kernel_rfl
  have HAI := Aside0.mk hai
  have HCI := Aside0.mk hci
  have HAO := Aside0.mk hao
  have HCO := Aside0.mk hco
  have HAW := Aside0.mk haw
  have HEN := Aside0.mk hen
  have HEM := Aside0.mk hem
  have HP := Aside0.mk hp
  have HD := Aside0.mk hd
  have HSZ := Aside0.mk hsz
  have HL := Aside0.mk hl
  have HX := Aside0.mk hx
  clear hai hci hao hco haw hen hem hp hd hsz hl hx
  have hu42 := Try.underlying42
  have hi42 : (Try.prog.info? 42).map (·.size) = some 2 := by kernel_rfl
  have BM := Aside0.mk (blk_alloc (blk_new w (.cells #[.int .i64 m.ty, .int .u32 m.xid, .string m.cl, .string m.sv, .slice Ai m.ias.length ci, .int .i64 m.code, .bool m.rap, .bool m.acc, .int .i64 m.again, .slice Ao m.opts.length co] 26)) (.cells #[.int .u16 2, .string o1] 42))
  have BO := Aside0.mk (blk_new (w.alloc (.cells #[.int .i64 m.ty, .int .u32 m.xid, .string m.cl, .string m.sv, .slice Ai m.ias.length ci, .int .i64 m.code, .bool m.rap, .bool m.acc, .int .i64 m.again, .slice Ao m.opts.length co] 26)) (.cells #[.int .u16 2, .string o1] 42))
  have HB := Aside0.mk (below_alloc (below_alloc (Below.refl _ w) (.cells #[.int .i64 m.ty, .int .u32 m.xid, .string m.cl, .string m.sv, .slice Ai m.ias.length ci, .int .i64 m.code, .bool m.rap, .bool m.acc, .int .i64 m.again, .slice Ao m.opts.length co] 26)) (.cells #[.int .u16 2, .string o1] 42))
  go_enter Try.func7, Try.ntmps7
  go_upto_region 1 with fail
  (try simp only [World.size_alloc] at BO)
  generalize World.alloc (World.alloc w _) _ = W0 at BM BO HB ⊢
  obtain ⟨gm, hgm⟩ : ∃ gm, gm = w.heap.size := ⟨_, rfl⟩
  obtain ⟨go_, hgo⟩ : ∃ go_, go_ = w.heap.size + 1 := ⟨_, rfl⟩
  rw [← hgo] at BO
  rw [← hgm] at BM
  rw [← hgo]
  rw [show (Value.pointer (some ⟨w.heap.size, 0, none⟩)) = .pointer (some ⟨gm, 0, none⟩) by rw [hgm]]
  clear hgm hgo
  go_upto_region 4 with (first | (go_at_call 9; refine (tenancylaw16_awake.calls 30 true _ HAW.out).mono ?_; rintro e wb ⟨rfl, hb⟩; have BMb := Aside0.mk (blk_below BM.out hb); have BOb := Aside0.mk (blk_below BO.out hb); have HBb := Aside0.mk (below_step HB.out hb); clear hb) | ((with_reducible refine gate_dst (N := 17) rfl ?_); (try (refine gate_guard (by rfl) ?_; dsimp only)); refine XBox.loadL_ 17 rfl rfl 26 rfl gm rfl _ BMb.out hu26 rfl hi26 ?_; simp only [Act.put, List.setIfInBounds_toArray, List.set_cons_zero, List.set_cons_succ]) | (go_at_call 13; refine (wire6_Encode.calls k m.ty m.xid m.cl m.sv Ai ci m.ias m.code m.rap m.acc m.again Ao co m.opts es 0 _ (Kd.C_below HAI.out HBb.out) HCI.out (Kd.C_below HAO.out HBb.out) HCO.out HEN.out).mono ?_; rintro e wc ⟨rfl, hb⟩; have BMc := Aside0.mk (blk_below BMb.out hb); have BOc := Aside0.mk (blk_below BOb.out hb); have HBc := Aside0.mk (below_step HBb.out hb); clear hb))
  clear BM BMb BO BOb HB HBb
  go_upto_region 5 with (first | ((with_reducible refine gate_dst (N := 22) rfl ?_); refine XBox.loadL_ 22 rfl rfl 42 rfl go_ rfl _ BOc.out hu42 rfl hi42 ?_; simp only [Act.put, List.setIfInBounds_toArray, List.set_cons_zero, List.set_cons_succ]) | (go_at_call 20; have BX := blk_new wc (.cells #[.int .u16 2, .string o1] 42); have BMd := Aside0.mk (blk_alloc BMc.out (.cells #[.int .u16 2, .string o1] 42)); have BOd := Aside0.mk (blk_alloc BOc.out (.cells #[.int .u16 2, .string o1] 42)); have HBd := Aside0.mk (below_alloc HBc.out (.cells #[.int .u16 2, .string o1] 42)); refine (opt6_Emit.calls _ 1 [(⟨2, o1⟩ : S42)] t 0 _ (optOne (o := ⟨2, o1⟩) BX) (Nat.le_refl 1) HEM.out).mono ?_; rintro e we ⟨rfl, hb⟩; have BMe := Aside0.mk (blk_below BMd.out hb); have BOe := Aside0.mk (blk_below BOd.out hb); have HBe := Aside0.mk (below_step HBd.out hb); clear hb BX BMd BOd HBd))
  clear BMc BOc HBc
  have hz0 : (es.size : Int) + (t.size : Int) ≤ 65507 := by have := HSZ.out.2; omega
  have hz1 : ¬ (65507 : Int) < (es.size : Int) + (t.size : Int) := by omega
  have hz2 : wrap64 ((es.size : Int) + (t.size : Int)) = (es.size : Int) + (t.size : Int) := Go.IntWalk.wrap64_in _ (by omega)
  go_upto_region 7 with fail
  clear hz0 hz1 hz2
  have h41 : (4 ≤ es.size) = True := eq_true HSZ.out.1
  have h42 : ((4 : Int) ≤ (es.size : Int)) = True := eq_true (by have := HSZ.out.1; omega)
  go_upto_region 8 with (go_at_call 19; refine (opt6_Parse.calls k (es.extract 4 es.size) l pe _ HP.out).mono ?_; rintro e wp ⟨v0, rfl, RL, hb⟩; obtain ⟨Al, cl, rfl⟩ := Kd.R_slice RL; clear RL; have BMp := Aside0.mk (blk_below BMe.out hb); have BOp := Aside0.mk (blk_below BOe.out hb); have HBp := Aside0.mk (below_step HBe.out hb); clear hb)
  clear h41 h42 BMe BOe HBe
  have hs : es.size + t.size ≤ 9223372036854775807 := by have := HSZ.out.2; omega
  go_upto_region 9 with (go_at_call 17; refine (wire6_Decode.calls k (es ++ t) md er _ HD.out).mono ?_; rintro e wg ⟨vi, vo, rfl, RI, RO, hb⟩; obtain ⟨Aj, cj, rfl, hl1, hk1⟩ := Kd.R_reads RI; obtain ⟨Ap, cp, rfl, hl2, hk2⟩ := Kd.R_reads RO; have HJ := Aside0.mk (And.intro hl1 hk1); have HQ := Aside0.mk (And.intro hl2 hk2); clear RI RO hl1 hk1 hl2 hk2; dsimp only [Ms.row]; have BMg := Aside0.mk (blk_below BMp.out hb); have BOg := Aside0.mk (blk_below BOp.out hb); have HBg := Aside0.mk (below_step HBp.out hb); clear hb)
  clear hs BMp BOp HBp
  have BN := Aside0.mk (blk_new wg (.cells #[.int .i64 md.ty, .int .u32 md.xid, .string md.cl, .string md.sv, .slice Aj md.ias.length cj, .int .i64 md.code, .bool md.rap, .bool md.acc, .int .i64 md.again, .slice Ap md.opts.length cp] 26))
  have BMh := Aside0.mk (blk_alloc BMg.out (.cells #[.int .i64 md.ty, .int .u32 md.xid, .string md.cl, .string md.sv, .slice Aj md.ias.length cj, .int .i64 md.code, .bool md.rap, .bool md.acc, .int .i64 md.again, .slice Ap md.opts.length cp] 26))
  have BOh := Aside0.mk (blk_alloc BOg.out (.cells #[.int .i64 md.ty, .int .u32 md.xid, .string md.cl, .string md.sv, .slice Aj md.ias.length cj, .int .i64 md.code, .bool md.rap, .bool md.acc, .int .i64 md.again, .slice Ap md.opts.length cp] 26))
  have HBh := Aside0.mk (below_alloc HBg.out (.cells #[.int .i64 md.ty, .int .u32 md.xid, .string md.cl, .string md.sv, .slice Aj md.ias.length cj, .int .i64 md.code, .bool md.rap, .bool md.acc, .int .i64 md.again, .slice Ap md.opts.length cp] 26))
  have HJh := Aside0.mk (Kd.C_below HJ.out.2 (below_alloc (Below.refl _ wg) (.cells #[.int .i64 md.ty, .int .u32 md.xid, .string md.cl, .string md.sv, .slice Aj md.ias.length cj, .int .i64 md.code, .bool md.rap, .bool md.acc, .int .i64 md.again, .slice Ap md.opts.length cp] 26)))
  have HQh := Aside0.mk (Kd.C_below HQ.out.2 (below_alloc (Below.refl _ wg) (.cells #[.int .i64 md.ty, .int .u32 md.xid, .string md.cl, .string md.sv, .slice Aj md.ias.length cj, .int .i64 md.code, .bool md.rap, .bool md.acc, .int .i64 md.again, .slice Ap md.opts.length cp] 26)))
  clear BMg BOg HBg HJ HQ
  generalize wg.alloc (.cells #[.int .i64 md.ty, .int .u32 md.xid, .string md.cl, .string md.sv, .slice Aj md.ias.length cj, .int .i64 md.code, .bool md.rap, .bool md.acc, .int .i64 md.again, .slice Ap md.opts.length cp] 26) = wh at BN BMh BOh HBh HJh HQh ⊢
  generalize wg.heap.size = gn at BN ⊢
  have hl1 := HL.out
  have hl2 : ¬ (128 : Int) ≤ (l.length : Int) := by omega
  have hl3 : (l.length : Int) < 128 := by omega
  have hm2 : wh.cell? ⟨gm, 2, none⟩ = some (.string m.cl) := (blk_cell BMh.out 2).trans rfl
  have hm3 : wh.cell? ⟨gm, 3, none⟩ = some (.string m.sv) := (blk_cell BMh.out 3).trans rfl
  have hm5 : wh.cell? ⟨gm, 5, none⟩ = some (.int .i64 m.code) := (blk_cell BMh.out 5).trans rfl
  have hm6 : wh.cell? ⟨gm, 6, none⟩ = some (.bool m.rap) := (blk_cell BMh.out 6).trans rfl
  have hm7 : wh.cell? ⟨gm, 7, none⟩ = some (.bool m.acc) := (blk_cell BMh.out 7).trans rfl
  have hm8 : wh.cell? ⟨gm, 8, none⟩ = some (.int .i64 m.again) := (blk_cell BMh.out 8).trans rfl
  have ho0 : wh.cell? ⟨go_, 0, none⟩ = some (.int .u16 2) := (blk_cell BOh.out 0).trans rfl
  have hx := HX.out
  go_wp2
  go_ret
  exact ⟨rfl, by first | exact HBh.out | exact below_drew1 HBh.out | exact pw_below_drewN HBh.out _⟩
set_option maxHeartbeats 8000000 in
set_option maxRecDepth 100000 in
theorem w6twice_once13t (k : Nat) (m : Ms) (Ai Ao : Option Addr) (ci co : Nat) (o1 : ByteArray) (w : World) (hai : Kd.C k51 w Ai m.ias.length m.ias) (hci : m.ias.length ≤ ci) (hao : Kd.C k42 w Ao m.opts.length m.opts) (hco : m.opts.length ≤ co)
    (haw : tenancylaw16_awake.f 30 = some true) (es t : ByteArray)  (hen : wire6_Encode.f k m.ty m.xid m.cl m.sv m.ias m.code m.rap m.acc m.again m.opts = some (es, 0)) (hem : opt6_Emit.f [(⟨13, o1⟩ : S42)] = some (t, 0)) (l : List S42) (pe : Int) (hp : opt6_Parse.f k (es.extract 4 es.size) = some (l, pe)) (md : Ms) (hd : wire6_Decode.f k (es ++ t) = some (md, 130)) (hsz : 4 ≤ es.size ∧ es.size + t.size ≤ 65507) (hl : l.length < 128) (hx : 0 ≤ m.code) :
    Calls Try.prog 7 #[.agg #[.int .i64 m.ty, .int .u32 m.xid, .string m.cl, .string m.sv, .slice Ai m.ias.length ci, .int .i64 m.code, .bool m.rap, .bool m.acc, .int .i64 m.again, .slice Ao m.opts.length co], .agg #[.int .u16 13, .string o1]] w fun e w' => e = .returned (.bool true) ∧ Below w.heap.size w w' := by
  have hu26 := Try.underlying26
  have hi26 : (Try.prog.info? 26).map (·.size) = some 10 := by kernel_rfl
  have HAI := Aside0.mk hai
  have HCI := Aside0.mk hci
  have HAO := Aside0.mk hao
  have HCO := Aside0.mk hco
  have HAW := Aside0.mk haw
  have HEN := Aside0.mk hen
  have HEM := Aside0.mk hem
  have HP := Aside0.mk hp
  have HD := Aside0.mk hd
  have HSZ := Aside0.mk hsz
  have HL := Aside0.mk hl
  have HX := Aside0.mk hx
  clear hai hci hao hco haw hen hem hp hd hsz hl hx
  have hu42 := Try.underlying42
  have hi42 : (Try.prog.info? 42).map (·.size) = some 2 := by kernel_rfl
  have BM := Aside0.mk (blk_alloc (blk_new w (.cells #[.int .i64 m.ty, .int .u32 m.xid, .string m.cl, .string m.sv, .slice Ai m.ias.length ci, .int .i64 m.code, .bool m.rap, .bool m.acc, .int .i64 m.again, .slice Ao m.opts.length co] 26)) (.cells #[.int .u16 13, .string o1] 42))
  have BO := Aside0.mk (blk_new (w.alloc (.cells #[.int .i64 m.ty, .int .u32 m.xid, .string m.cl, .string m.sv, .slice Ai m.ias.length ci, .int .i64 m.code, .bool m.rap, .bool m.acc, .int .i64 m.again, .slice Ao m.opts.length co] 26)) (.cells #[.int .u16 13, .string o1] 42))
  have HB := Aside0.mk (below_alloc (below_alloc (Below.refl _ w) (.cells #[.int .i64 m.ty, .int .u32 m.xid, .string m.cl, .string m.sv, .slice Ai m.ias.length ci, .int .i64 m.code, .bool m.rap, .bool m.acc, .int .i64 m.again, .slice Ao m.opts.length co] 26)) (.cells #[.int .u16 13, .string o1] 42))
  go_enter Try.func7, Try.ntmps7
  go_upto_region 1 with fail
  (try simp only [World.size_alloc] at BO)
  generalize World.alloc (World.alloc w _) _ = W0 at BM BO HB ⊢
  obtain ⟨gm, hgm⟩ : ∃ gm, gm = w.heap.size := ⟨_, rfl⟩
  obtain ⟨go_, hgo⟩ : ∃ go_, go_ = w.heap.size + 1 := ⟨_, rfl⟩
  rw [← hgo] at BO
  rw [← hgm] at BM
  rw [← hgo]
  rw [show (Value.pointer (some ⟨w.heap.size, 0, none⟩)) = .pointer (some ⟨gm, 0, none⟩) by rw [hgm]]
  clear hgm hgo
  go_upto_region 4 with (first | (go_at_call 9; refine (tenancylaw16_awake.calls 30 true _ HAW.out).mono ?_; rintro e wb ⟨rfl, hb⟩; have BMb := Aside0.mk (blk_below BM.out hb); have BOb := Aside0.mk (blk_below BO.out hb); have HBb := Aside0.mk (below_step HB.out hb); clear hb) | ((with_reducible refine gate_dst (N := 17) rfl ?_); (try (refine gate_guard (by rfl) ?_; dsimp only)); refine XBox.loadL_ 17 rfl rfl 26 rfl gm rfl _ BMb.out hu26 rfl hi26 ?_; simp only [Act.put, List.setIfInBounds_toArray, List.set_cons_zero, List.set_cons_succ]) | (go_at_call 13; refine (wire6_Encode.calls k m.ty m.xid m.cl m.sv Ai ci m.ias m.code m.rap m.acc m.again Ao co m.opts es 0 _ (Kd.C_below HAI.out HBb.out) HCI.out (Kd.C_below HAO.out HBb.out) HCO.out HEN.out).mono ?_; rintro e wc ⟨rfl, hb⟩; have BMc := Aside0.mk (blk_below BMb.out hb); have BOc := Aside0.mk (blk_below BOb.out hb); have HBc := Aside0.mk (below_step HBb.out hb); clear hb))
  clear BM BMb BO BOb HB HBb
  go_upto_region 5 with (first | ((with_reducible refine gate_dst (N := 22) rfl ?_); refine XBox.loadL_ 22 rfl rfl 42 rfl go_ rfl _ BOc.out hu42 rfl hi42 ?_; simp only [Act.put, List.setIfInBounds_toArray, List.set_cons_zero, List.set_cons_succ]) | (go_at_call 20; have BX := blk_new wc (.cells #[.int .u16 13, .string o1] 42); have BMd := Aside0.mk (blk_alloc BMc.out (.cells #[.int .u16 13, .string o1] 42)); have BOd := Aside0.mk (blk_alloc BOc.out (.cells #[.int .u16 13, .string o1] 42)); have HBd := Aside0.mk (below_alloc HBc.out (.cells #[.int .u16 13, .string o1] 42)); refine (opt6_Emit.calls _ 1 [(⟨13, o1⟩ : S42)] t 0 _ (optOne (o := ⟨13, o1⟩) BX) (Nat.le_refl 1) HEM.out).mono ?_; rintro e we ⟨rfl, hb⟩; have BMe := Aside0.mk (blk_below BMd.out hb); have BOe := Aside0.mk (blk_below BOd.out hb); have HBe := Aside0.mk (below_step HBd.out hb); clear hb BX BMd BOd HBd))
  clear BMc BOc HBc
  have hz0 : (es.size : Int) + (t.size : Int) ≤ 65507 := by have := HSZ.out.2; omega
  have hz1 : ¬ (65507 : Int) < (es.size : Int) + (t.size : Int) := by omega
  have hz2 : wrap64 ((es.size : Int) + (t.size : Int)) = (es.size : Int) + (t.size : Int) := Go.IntWalk.wrap64_in _ (by omega)
  go_upto_region 7 with fail
  clear hz0 hz1 hz2
  have h41 : (4 ≤ es.size) = True := eq_true HSZ.out.1
  have h42 : ((4 : Int) ≤ (es.size : Int)) = True := eq_true (by have := HSZ.out.1; omega)
  go_upto_region 8 with (go_at_call 19; refine (opt6_Parse.calls k (es.extract 4 es.size) l pe _ HP.out).mono ?_; rintro e wp ⟨v0, rfl, RL, hb⟩; obtain ⟨Al, cl, rfl⟩ := Kd.R_slice RL; clear RL; have BMp := Aside0.mk (blk_below BMe.out hb); have BOp := Aside0.mk (blk_below BOe.out hb); have HBp := Aside0.mk (below_step HBe.out hb); clear hb)
  clear h41 h42 BMe BOe HBe
  have hs : es.size + t.size ≤ 9223372036854775807 := by have := HSZ.out.2; omega
  go_upto_region 9 with (go_at_call 17; refine (wire6_Decode.calls k (es ++ t) md 130 _ HD.out).mono ?_; rintro e wg ⟨vi, vo, rfl, RI, RO, hb⟩; obtain ⟨Aj, cj, rfl, hl1, hk1⟩ := Kd.R_reads RI; obtain ⟨Ap, cp, rfl, hl2, hk2⟩ := Kd.R_reads RO; have HJ := Aside0.mk (And.intro hl1 hk1); have HQ := Aside0.mk (And.intro hl2 hk2); clear RI RO hl1 hk1 hl2 hk2; dsimp only [Ms.row]; have BMg := Aside0.mk (blk_below BMp.out hb); have BOg := Aside0.mk (blk_below BOp.out hb); have HBg := Aside0.mk (below_step HBp.out hb); clear hb)
  clear hs BMp BOp HBp
  have BN := Aside0.mk (blk_new wg (.cells #[.int .i64 md.ty, .int .u32 md.xid, .string md.cl, .string md.sv, .slice Aj md.ias.length cj, .int .i64 md.code, .bool md.rap, .bool md.acc, .int .i64 md.again, .slice Ap md.opts.length cp] 26))
  have BMh := Aside0.mk (blk_alloc BMg.out (.cells #[.int .i64 md.ty, .int .u32 md.xid, .string md.cl, .string md.sv, .slice Aj md.ias.length cj, .int .i64 md.code, .bool md.rap, .bool md.acc, .int .i64 md.again, .slice Ap md.opts.length cp] 26))
  have BOh := Aside0.mk (blk_alloc BOg.out (.cells #[.int .i64 md.ty, .int .u32 md.xid, .string md.cl, .string md.sv, .slice Aj md.ias.length cj, .int .i64 md.code, .bool md.rap, .bool md.acc, .int .i64 md.again, .slice Ap md.opts.length cp] 26))
  have HBh := Aside0.mk (below_alloc HBg.out (.cells #[.int .i64 md.ty, .int .u32 md.xid, .string md.cl, .string md.sv, .slice Aj md.ias.length cj, .int .i64 md.code, .bool md.rap, .bool md.acc, .int .i64 md.again, .slice Ap md.opts.length cp] 26))
  have HJh := Aside0.mk (Kd.C_below HJ.out.2 (below_alloc (Below.refl _ wg) (.cells #[.int .i64 md.ty, .int .u32 md.xid, .string md.cl, .string md.sv, .slice Aj md.ias.length cj, .int .i64 md.code, .bool md.rap, .bool md.acc, .int .i64 md.again, .slice Ap md.opts.length cp] 26)))
  have HQh := Aside0.mk (Kd.C_below HQ.out.2 (below_alloc (Below.refl _ wg) (.cells #[.int .i64 md.ty, .int .u32 md.xid, .string md.cl, .string md.sv, .slice Aj md.ias.length cj, .int .i64 md.code, .bool md.rap, .bool md.acc, .int .i64 md.again, .slice Ap md.opts.length cp] 26)))
  clear BMg BOg HBg HJ HQ
  generalize wg.alloc (.cells #[.int .i64 md.ty, .int .u32 md.xid, .string md.cl, .string md.sv, .slice Aj md.ias.length cj, .int .i64 md.code, .bool md.rap, .bool md.acc, .int .i64 md.again, .slice Ap md.opts.length cp] 26) = wh at BN BMh BOh HBh HJh HQh ⊢
  generalize wg.heap.size = gn at BN ⊢
  have hl1 := HL.out
  have hl2 : ¬ (128 : Int) ≤ (l.length : Int) := by omega
  have hl3 : (l.length : Int) < 128 := by omega
  have hm2 : wh.cell? ⟨gm, 2, none⟩ = some (.string m.cl) := (blk_cell BMh.out 2).trans rfl
  have hm3 : wh.cell? ⟨gm, 3, none⟩ = some (.string m.sv) := (blk_cell BMh.out 3).trans rfl
  have hm5 : wh.cell? ⟨gm, 5, none⟩ = some (.int .i64 m.code) := (blk_cell BMh.out 5).trans rfl
  have hm6 : wh.cell? ⟨gm, 6, none⟩ = some (.bool m.rap) := (blk_cell BMh.out 6).trans rfl
  have hm7 : wh.cell? ⟨gm, 7, none⟩ = some (.bool m.acc) := (blk_cell BMh.out 7).trans rfl
  have hm8 : wh.cell? ⟨gm, 8, none⟩ = some (.int .i64 m.again) := (blk_cell BMh.out 8).trans rfl
  have ho0 : wh.cell? ⟨go_, 0, none⟩ = some (.int .u16 13) := (blk_cell BOh.out 0).trans rfl
  have hx := HX.out
  go_wp2
  go_ret
  exact ⟨rfl, by first | exact HBh.out | exact below_drew1 HBh.out | exact pw_below_drewN HBh.out _⟩
set_option maxHeartbeats 8000000 in
set_option maxRecDepth 100000 in
theorem w6twice_once13f (k : Nat) (m : Ms) (Ai Ao : Option Addr) (ci co : Nat) (o1 : ByteArray) (w : World) (hai : Kd.C k51 w Ai m.ias.length m.ias) (hci : m.ias.length ≤ ci) (hao : Kd.C k42 w Ao m.opts.length m.opts) (hco : m.opts.length ≤ co)
    (haw : tenancylaw16_awake.f 30 = some true) (es t : ByteArray)  (hen : wire6_Encode.f k m.ty m.xid m.cl m.sv m.ias m.code m.rap m.acc m.again m.opts = some (es, 0)) (hem : opt6_Emit.f [(⟨13, o1⟩ : S42)] = some (t, 0)) (l : List S42) (pe : Int) (hp : opt6_Parse.f k (es.extract 4 es.size) = some (l, pe)) (md : Ms) (er : Int) (hd : wire6_Decode.f k (es ++ t) = some (md, er)) (hsz : 4 ≤ es.size ∧ es.size + t.size ≤ 65507) (hl : l.length < 128) (hx : ¬ 0 ≤ m.code) :
    Calls Try.prog 7 #[.agg #[.int .i64 m.ty, .int .u32 m.xid, .string m.cl, .string m.sv, .slice Ai m.ias.length ci, .int .i64 m.code, .bool m.rap, .bool m.acc, .int .i64 m.again, .slice Ao m.opts.length co], .agg #[.int .u16 13, .string o1]] w fun e w' => e = .returned (.bool true) ∧ Below w.heap.size w w' := by
  have hu26 := Try.underlying26
  have hi26 : (Try.prog.info? 26).map (·.size) = some 10 := by kernel_rfl
  have HAI := Aside0.mk hai
  have HCI := Aside0.mk hci
  have HAO := Aside0.mk hao
  have HCO := Aside0.mk hco
  have HAW := Aside0.mk haw
  have HEN := Aside0.mk hen
  have HEM := Aside0.mk hem
  have HP := Aside0.mk hp
  have HD := Aside0.mk hd
  have HSZ := Aside0.mk hsz
  have HL := Aside0.mk hl
  have HX := Aside0.mk hx
  clear hai hci hao hco haw hen hem hp hd hsz hl hx
  have hu42 := Try.underlying42
  have hi42 : (Try.prog.info? 42).map (·.size) = some 2 := by kernel_rfl
  have BM := Aside0.mk (blk_alloc (blk_new w (.cells #[.int .i64 m.ty, .int .u32 m.xid, .string m.cl, .string m.sv, .slice Ai m.ias.length ci, .int .i64 m.code, .bool m.rap, .bool m.acc, .int .i64 m.again, .slice Ao m.opts.length co] 26)) (.cells #[.int .u16 13, .string o1] 42))
  have BO := Aside0.mk (blk_new (w.alloc (.cells #[.int .i64 m.ty, .int .u32 m.xid, .string m.cl, .string m.sv, .slice Ai m.ias.length ci, .int .i64 m.code, .bool m.rap, .bool m.acc, .int .i64 m.again, .slice Ao m.opts.length co] 26)) (.cells #[.int .u16 13, .string o1] 42))
  have HB := Aside0.mk (below_alloc (below_alloc (Below.refl _ w) (.cells #[.int .i64 m.ty, .int .u32 m.xid, .string m.cl, .string m.sv, .slice Ai m.ias.length ci, .int .i64 m.code, .bool m.rap, .bool m.acc, .int .i64 m.again, .slice Ao m.opts.length co] 26)) (.cells #[.int .u16 13, .string o1] 42))
  go_enter Try.func7, Try.ntmps7
  go_upto_region 1 with fail
  (try simp only [World.size_alloc] at BO)
  generalize World.alloc (World.alloc w _) _ = W0 at BM BO HB ⊢
  obtain ⟨gm, hgm⟩ : ∃ gm, gm = w.heap.size := ⟨_, rfl⟩
  obtain ⟨go_, hgo⟩ : ∃ go_, go_ = w.heap.size + 1 := ⟨_, rfl⟩
  rw [← hgo] at BO
  rw [← hgm] at BM
  rw [← hgo]
  rw [show (Value.pointer (some ⟨w.heap.size, 0, none⟩)) = .pointer (some ⟨gm, 0, none⟩) by rw [hgm]]
  clear hgm hgo
  go_upto_region 4 with (first | (go_at_call 9; refine (tenancylaw16_awake.calls 30 true _ HAW.out).mono ?_; rintro e wb ⟨rfl, hb⟩; have BMb := Aside0.mk (blk_below BM.out hb); have BOb := Aside0.mk (blk_below BO.out hb); have HBb := Aside0.mk (below_step HB.out hb); clear hb) | ((with_reducible refine gate_dst (N := 17) rfl ?_); (try (refine gate_guard (by rfl) ?_; dsimp only)); refine XBox.loadL_ 17 rfl rfl 26 rfl gm rfl _ BMb.out hu26 rfl hi26 ?_; simp only [Act.put, List.setIfInBounds_toArray, List.set_cons_zero, List.set_cons_succ]) | (go_at_call 13; refine (wire6_Encode.calls k m.ty m.xid m.cl m.sv Ai ci m.ias m.code m.rap m.acc m.again Ao co m.opts es 0 _ (Kd.C_below HAI.out HBb.out) HCI.out (Kd.C_below HAO.out HBb.out) HCO.out HEN.out).mono ?_; rintro e wc ⟨rfl, hb⟩; have BMc := Aside0.mk (blk_below BMb.out hb); have BOc := Aside0.mk (blk_below BOb.out hb); have HBc := Aside0.mk (below_step HBb.out hb); clear hb))
  clear BM BMb BO BOb HB HBb
  go_upto_region 5 with (first | ((with_reducible refine gate_dst (N := 22) rfl ?_); refine XBox.loadL_ 22 rfl rfl 42 rfl go_ rfl _ BOc.out hu42 rfl hi42 ?_; simp only [Act.put, List.setIfInBounds_toArray, List.set_cons_zero, List.set_cons_succ]) | (go_at_call 20; have BX := blk_new wc (.cells #[.int .u16 13, .string o1] 42); have BMd := Aside0.mk (blk_alloc BMc.out (.cells #[.int .u16 13, .string o1] 42)); have BOd := Aside0.mk (blk_alloc BOc.out (.cells #[.int .u16 13, .string o1] 42)); have HBd := Aside0.mk (below_alloc HBc.out (.cells #[.int .u16 13, .string o1] 42)); refine (opt6_Emit.calls _ 1 [(⟨13, o1⟩ : S42)] t 0 _ (optOne (o := ⟨13, o1⟩) BX) (Nat.le_refl 1) HEM.out).mono ?_; rintro e we ⟨rfl, hb⟩; have BMe := Aside0.mk (blk_below BMd.out hb); have BOe := Aside0.mk (blk_below BOd.out hb); have HBe := Aside0.mk (below_step HBd.out hb); clear hb BX BMd BOd HBd))
  clear BMc BOc HBc
  have hz0 : (es.size : Int) + (t.size : Int) ≤ 65507 := by have := HSZ.out.2; omega
  have hz1 : ¬ (65507 : Int) < (es.size : Int) + (t.size : Int) := by omega
  have hz2 : wrap64 ((es.size : Int) + (t.size : Int)) = (es.size : Int) + (t.size : Int) := Go.IntWalk.wrap64_in _ (by omega)
  go_upto_region 7 with fail
  clear hz0 hz1 hz2
  have h41 : (4 ≤ es.size) = True := eq_true HSZ.out.1
  have h42 : ((4 : Int) ≤ (es.size : Int)) = True := eq_true (by have := HSZ.out.1; omega)
  go_upto_region 8 with (go_at_call 19; refine (opt6_Parse.calls k (es.extract 4 es.size) l pe _ HP.out).mono ?_; rintro e wp ⟨v0, rfl, RL, hb⟩; obtain ⟨Al, cl, rfl⟩ := Kd.R_slice RL; clear RL; have BMp := Aside0.mk (blk_below BMe.out hb); have BOp := Aside0.mk (blk_below BOe.out hb); have HBp := Aside0.mk (below_step HBe.out hb); clear hb)
  clear h41 h42 BMe BOe HBe
  have hs : es.size + t.size ≤ 9223372036854775807 := by have := HSZ.out.2; omega
  go_upto_region 9 with (go_at_call 17; refine (wire6_Decode.calls k (es ++ t) md er _ HD.out).mono ?_; rintro e wg ⟨vi, vo, rfl, RI, RO, hb⟩; obtain ⟨Aj, cj, rfl, hl1, hk1⟩ := Kd.R_reads RI; obtain ⟨Ap, cp, rfl, hl2, hk2⟩ := Kd.R_reads RO; have HJ := Aside0.mk (And.intro hl1 hk1); have HQ := Aside0.mk (And.intro hl2 hk2); clear RI RO hl1 hk1 hl2 hk2; dsimp only [Ms.row]; have BMg := Aside0.mk (blk_below BMp.out hb); have BOg := Aside0.mk (blk_below BOp.out hb); have HBg := Aside0.mk (below_step HBp.out hb); clear hb)
  clear hs BMp BOp HBp
  have BN := Aside0.mk (blk_new wg (.cells #[.int .i64 md.ty, .int .u32 md.xid, .string md.cl, .string md.sv, .slice Aj md.ias.length cj, .int .i64 md.code, .bool md.rap, .bool md.acc, .int .i64 md.again, .slice Ap md.opts.length cp] 26))
  have BMh := Aside0.mk (blk_alloc BMg.out (.cells #[.int .i64 md.ty, .int .u32 md.xid, .string md.cl, .string md.sv, .slice Aj md.ias.length cj, .int .i64 md.code, .bool md.rap, .bool md.acc, .int .i64 md.again, .slice Ap md.opts.length cp] 26))
  have BOh := Aside0.mk (blk_alloc BOg.out (.cells #[.int .i64 md.ty, .int .u32 md.xid, .string md.cl, .string md.sv, .slice Aj md.ias.length cj, .int .i64 md.code, .bool md.rap, .bool md.acc, .int .i64 md.again, .slice Ap md.opts.length cp] 26))
  have HBh := Aside0.mk (below_alloc HBg.out (.cells #[.int .i64 md.ty, .int .u32 md.xid, .string md.cl, .string md.sv, .slice Aj md.ias.length cj, .int .i64 md.code, .bool md.rap, .bool md.acc, .int .i64 md.again, .slice Ap md.opts.length cp] 26))
  have HJh := Aside0.mk (Kd.C_below HJ.out.2 (below_alloc (Below.refl _ wg) (.cells #[.int .i64 md.ty, .int .u32 md.xid, .string md.cl, .string md.sv, .slice Aj md.ias.length cj, .int .i64 md.code, .bool md.rap, .bool md.acc, .int .i64 md.again, .slice Ap md.opts.length cp] 26)))
  have HQh := Aside0.mk (Kd.C_below HQ.out.2 (below_alloc (Below.refl _ wg) (.cells #[.int .i64 md.ty, .int .u32 md.xid, .string md.cl, .string md.sv, .slice Aj md.ias.length cj, .int .i64 md.code, .bool md.rap, .bool md.acc, .int .i64 md.again, .slice Ap md.opts.length cp] 26)))
  clear BMg BOg HBg HJ HQ
  generalize wg.alloc (.cells #[.int .i64 md.ty, .int .u32 md.xid, .string md.cl, .string md.sv, .slice Aj md.ias.length cj, .int .i64 md.code, .bool md.rap, .bool md.acc, .int .i64 md.again, .slice Ap md.opts.length cp] 26) = wh at BN BMh BOh HBh HJh HQh ⊢
  generalize wg.heap.size = gn at BN ⊢
  have hl1 := HL.out
  have hl2 : ¬ (128 : Int) ≤ (l.length : Int) := by omega
  have hl3 : (l.length : Int) < 128 := by omega
  have hm2 : wh.cell? ⟨gm, 2, none⟩ = some (.string m.cl) := (blk_cell BMh.out 2).trans rfl
  have hm3 : wh.cell? ⟨gm, 3, none⟩ = some (.string m.sv) := (blk_cell BMh.out 3).trans rfl
  have hm5 : wh.cell? ⟨gm, 5, none⟩ = some (.int .i64 m.code) := (blk_cell BMh.out 5).trans rfl
  have hm6 : wh.cell? ⟨gm, 6, none⟩ = some (.bool m.rap) := (blk_cell BMh.out 6).trans rfl
  have hm7 : wh.cell? ⟨gm, 7, none⟩ = some (.bool m.acc) := (blk_cell BMh.out 7).trans rfl
  have hm8 : wh.cell? ⟨gm, 8, none⟩ = some (.int .i64 m.again) := (blk_cell BMh.out 8).trans rfl
  have ho0 : wh.cell? ⟨go_, 0, none⟩ = some (.int .u16 13) := (blk_cell BOh.out 0).trans rfl
  have hx := HX.out
  go_wp2
  go_ret
  exact ⟨rfl, by first | exact HBh.out | exact below_drew1 HBh.out | exact pw_below_drewN HBh.out _⟩
set_option maxHeartbeats 8000000 in
set_option maxRecDepth 100000 in
theorem w6twice_once14t (k : Nat) (m : Ms) (Ai Ao : Option Addr) (ci co : Nat) (o1 : ByteArray) (w : World) (hai : Kd.C k51 w Ai m.ias.length m.ias) (hci : m.ias.length ≤ ci) (hao : Kd.C k42 w Ao m.opts.length m.opts) (hco : m.opts.length ≤ co)
    (haw : tenancylaw16_awake.f 30 = some true) (es t : ByteArray)  (hen : wire6_Encode.f k m.ty m.xid m.cl m.sv m.ias m.code m.rap m.acc m.again m.opts = some (es, 0)) (hem : opt6_Emit.f [(⟨14, o1⟩ : S42)] = some (t, 0)) (l : List S42) (pe : Int) (hp : opt6_Parse.f k (es.extract 4 es.size) = some (l, pe)) (md : Ms) (hd : wire6_Decode.f k (es ++ t) = some (md, 130)) (hsz : 4 ≤ es.size ∧ es.size + t.size ≤ 65507) (hl : l.length < 128) (hx : m.rap = true) :
    Calls Try.prog 7 #[.agg #[.int .i64 m.ty, .int .u32 m.xid, .string m.cl, .string m.sv, .slice Ai m.ias.length ci, .int .i64 m.code, .bool m.rap, .bool m.acc, .int .i64 m.again, .slice Ao m.opts.length co], .agg #[.int .u16 14, .string o1]] w fun e w' => e = .returned (.bool true) ∧ Below w.heap.size w w' := by
  have hu26 := Try.underlying26
  have hi26 : (Try.prog.info? 26).map (·.size) = some 10 := by kernel_rfl
  have HAI := Aside0.mk hai
  have HCI := Aside0.mk hci
  have HAO := Aside0.mk hao
  have HCO := Aside0.mk hco
  have HAW := Aside0.mk haw
  have HEN := Aside0.mk hen
  have HEM := Aside0.mk hem
  have HP := Aside0.mk hp
  have HD := Aside0.mk hd
  have HSZ := Aside0.mk hsz
  have HL := Aside0.mk hl
  have HX := Aside0.mk hx
  clear hai hci hao hco haw hen hem hp hd hsz hl hx
  have hu42 := Try.underlying42
  have hi42 : (Try.prog.info? 42).map (·.size) = some 2 := by kernel_rfl
  have BM := Aside0.mk (blk_alloc (blk_new w (.cells #[.int .i64 m.ty, .int .u32 m.xid, .string m.cl, .string m.sv, .slice Ai m.ias.length ci, .int .i64 m.code, .bool m.rap, .bool m.acc, .int .i64 m.again, .slice Ao m.opts.length co] 26)) (.cells #[.int .u16 14, .string o1] 42))
  have BO := Aside0.mk (blk_new (w.alloc (.cells #[.int .i64 m.ty, .int .u32 m.xid, .string m.cl, .string m.sv, .slice Ai m.ias.length ci, .int .i64 m.code, .bool m.rap, .bool m.acc, .int .i64 m.again, .slice Ao m.opts.length co] 26)) (.cells #[.int .u16 14, .string o1] 42))
  have HB := Aside0.mk (below_alloc (below_alloc (Below.refl _ w) (.cells #[.int .i64 m.ty, .int .u32 m.xid, .string m.cl, .string m.sv, .slice Ai m.ias.length ci, .int .i64 m.code, .bool m.rap, .bool m.acc, .int .i64 m.again, .slice Ao m.opts.length co] 26)) (.cells #[.int .u16 14, .string o1] 42))
  go_enter Try.func7, Try.ntmps7
  go_upto_region 1 with fail
  (try simp only [World.size_alloc] at BO)
  generalize World.alloc (World.alloc w _) _ = W0 at BM BO HB ⊢
  obtain ⟨gm, hgm⟩ : ∃ gm, gm = w.heap.size := ⟨_, rfl⟩
  obtain ⟨go_, hgo⟩ : ∃ go_, go_ = w.heap.size + 1 := ⟨_, rfl⟩
  rw [← hgo] at BO
  rw [← hgm] at BM
  rw [← hgo]
  rw [show (Value.pointer (some ⟨w.heap.size, 0, none⟩)) = .pointer (some ⟨gm, 0, none⟩) by rw [hgm]]
  clear hgm hgo
  go_upto_region 4 with (first | (go_at_call 9; refine (tenancylaw16_awake.calls 30 true _ HAW.out).mono ?_; rintro e wb ⟨rfl, hb⟩; have BMb := Aside0.mk (blk_below BM.out hb); have BOb := Aside0.mk (blk_below BO.out hb); have HBb := Aside0.mk (below_step HB.out hb); clear hb) | ((with_reducible refine gate_dst (N := 17) rfl ?_); (try (refine gate_guard (by rfl) ?_; dsimp only)); refine XBox.loadL_ 17 rfl rfl 26 rfl gm rfl _ BMb.out hu26 rfl hi26 ?_; simp only [Act.put, List.setIfInBounds_toArray, List.set_cons_zero, List.set_cons_succ]) | (go_at_call 13; refine (wire6_Encode.calls k m.ty m.xid m.cl m.sv Ai ci m.ias m.code m.rap m.acc m.again Ao co m.opts es 0 _ (Kd.C_below HAI.out HBb.out) HCI.out (Kd.C_below HAO.out HBb.out) HCO.out HEN.out).mono ?_; rintro e wc ⟨rfl, hb⟩; have BMc := Aside0.mk (blk_below BMb.out hb); have BOc := Aside0.mk (blk_below BOb.out hb); have HBc := Aside0.mk (below_step HBb.out hb); clear hb))
  clear BM BMb BO BOb HB HBb
  go_upto_region 5 with (first | ((with_reducible refine gate_dst (N := 22) rfl ?_); refine XBox.loadL_ 22 rfl rfl 42 rfl go_ rfl _ BOc.out hu42 rfl hi42 ?_; simp only [Act.put, List.setIfInBounds_toArray, List.set_cons_zero, List.set_cons_succ]) | (go_at_call 20; have BX := blk_new wc (.cells #[.int .u16 14, .string o1] 42); have BMd := Aside0.mk (blk_alloc BMc.out (.cells #[.int .u16 14, .string o1] 42)); have BOd := Aside0.mk (blk_alloc BOc.out (.cells #[.int .u16 14, .string o1] 42)); have HBd := Aside0.mk (below_alloc HBc.out (.cells #[.int .u16 14, .string o1] 42)); refine (opt6_Emit.calls _ 1 [(⟨14, o1⟩ : S42)] t 0 _ (optOne (o := ⟨14, o1⟩) BX) (Nat.le_refl 1) HEM.out).mono ?_; rintro e we ⟨rfl, hb⟩; have BMe := Aside0.mk (blk_below BMd.out hb); have BOe := Aside0.mk (blk_below BOd.out hb); have HBe := Aside0.mk (below_step HBd.out hb); clear hb BX BMd BOd HBd))
  clear BMc BOc HBc
  have hz0 : (es.size : Int) + (t.size : Int) ≤ 65507 := by have := HSZ.out.2; omega
  have hz1 : ¬ (65507 : Int) < (es.size : Int) + (t.size : Int) := by omega
  have hz2 : wrap64 ((es.size : Int) + (t.size : Int)) = (es.size : Int) + (t.size : Int) := Go.IntWalk.wrap64_in _ (by omega)
  go_upto_region 7 with fail
  clear hz0 hz1 hz2
  have h41 : (4 ≤ es.size) = True := eq_true HSZ.out.1
  have h42 : ((4 : Int) ≤ (es.size : Int)) = True := eq_true (by have := HSZ.out.1; omega)
  go_upto_region 8 with (go_at_call 19; refine (opt6_Parse.calls k (es.extract 4 es.size) l pe _ HP.out).mono ?_; rintro e wp ⟨v0, rfl, RL, hb⟩; obtain ⟨Al, cl, rfl⟩ := Kd.R_slice RL; clear RL; have BMp := Aside0.mk (blk_below BMe.out hb); have BOp := Aside0.mk (blk_below BOe.out hb); have HBp := Aside0.mk (below_step HBe.out hb); clear hb)
  clear h41 h42 BMe BOe HBe
  have hs : es.size + t.size ≤ 9223372036854775807 := by have := HSZ.out.2; omega
  go_upto_region 9 with (go_at_call 17; refine (wire6_Decode.calls k (es ++ t) md 130 _ HD.out).mono ?_; rintro e wg ⟨vi, vo, rfl, RI, RO, hb⟩; obtain ⟨Aj, cj, rfl, hl1, hk1⟩ := Kd.R_reads RI; obtain ⟨Ap, cp, rfl, hl2, hk2⟩ := Kd.R_reads RO; have HJ := Aside0.mk (And.intro hl1 hk1); have HQ := Aside0.mk (And.intro hl2 hk2); clear RI RO hl1 hk1 hl2 hk2; dsimp only [Ms.row]; have BMg := Aside0.mk (blk_below BMp.out hb); have BOg := Aside0.mk (blk_below BOp.out hb); have HBg := Aside0.mk (below_step HBp.out hb); clear hb)
  clear hs BMp BOp HBp
  have BN := Aside0.mk (blk_new wg (.cells #[.int .i64 md.ty, .int .u32 md.xid, .string md.cl, .string md.sv, .slice Aj md.ias.length cj, .int .i64 md.code, .bool md.rap, .bool md.acc, .int .i64 md.again, .slice Ap md.opts.length cp] 26))
  have BMh := Aside0.mk (blk_alloc BMg.out (.cells #[.int .i64 md.ty, .int .u32 md.xid, .string md.cl, .string md.sv, .slice Aj md.ias.length cj, .int .i64 md.code, .bool md.rap, .bool md.acc, .int .i64 md.again, .slice Ap md.opts.length cp] 26))
  have BOh := Aside0.mk (blk_alloc BOg.out (.cells #[.int .i64 md.ty, .int .u32 md.xid, .string md.cl, .string md.sv, .slice Aj md.ias.length cj, .int .i64 md.code, .bool md.rap, .bool md.acc, .int .i64 md.again, .slice Ap md.opts.length cp] 26))
  have HBh := Aside0.mk (below_alloc HBg.out (.cells #[.int .i64 md.ty, .int .u32 md.xid, .string md.cl, .string md.sv, .slice Aj md.ias.length cj, .int .i64 md.code, .bool md.rap, .bool md.acc, .int .i64 md.again, .slice Ap md.opts.length cp] 26))
  have HJh := Aside0.mk (Kd.C_below HJ.out.2 (below_alloc (Below.refl _ wg) (.cells #[.int .i64 md.ty, .int .u32 md.xid, .string md.cl, .string md.sv, .slice Aj md.ias.length cj, .int .i64 md.code, .bool md.rap, .bool md.acc, .int .i64 md.again, .slice Ap md.opts.length cp] 26)))
  have HQh := Aside0.mk (Kd.C_below HQ.out.2 (below_alloc (Below.refl _ wg) (.cells #[.int .i64 md.ty, .int .u32 md.xid, .string md.cl, .string md.sv, .slice Aj md.ias.length cj, .int .i64 md.code, .bool md.rap, .bool md.acc, .int .i64 md.again, .slice Ap md.opts.length cp] 26)))
  clear BMg BOg HBg HJ HQ
  generalize wg.alloc (.cells #[.int .i64 md.ty, .int .u32 md.xid, .string md.cl, .string md.sv, .slice Aj md.ias.length cj, .int .i64 md.code, .bool md.rap, .bool md.acc, .int .i64 md.again, .slice Ap md.opts.length cp] 26) = wh at BN BMh BOh HBh HJh HQh ⊢
  generalize wg.heap.size = gn at BN ⊢
  have hl1 := HL.out
  have hl2 : ¬ (128 : Int) ≤ (l.length : Int) := by omega
  have hl3 : (l.length : Int) < 128 := by omega
  have hm2 : wh.cell? ⟨gm, 2, none⟩ = some (.string m.cl) := (blk_cell BMh.out 2).trans rfl
  have hm3 : wh.cell? ⟨gm, 3, none⟩ = some (.string m.sv) := (blk_cell BMh.out 3).trans rfl
  have hm5 : wh.cell? ⟨gm, 5, none⟩ = some (.int .i64 m.code) := (blk_cell BMh.out 5).trans rfl
  have hm6 : wh.cell? ⟨gm, 6, none⟩ = some (.bool m.rap) := (blk_cell BMh.out 6).trans rfl
  have hm7 : wh.cell? ⟨gm, 7, none⟩ = some (.bool m.acc) := (blk_cell BMh.out 7).trans rfl
  have hm8 : wh.cell? ⟨gm, 8, none⟩ = some (.int .i64 m.again) := (blk_cell BMh.out 8).trans rfl
  have ho0 : wh.cell? ⟨go_, 0, none⟩ = some (.int .u16 14) := (blk_cell BOh.out 0).trans rfl
  have hx := HX.out
  go_wp2
  go_ret
  exact ⟨rfl, by first | exact HBh.out | exact below_drew1 HBh.out | exact pw_below_drewN HBh.out _⟩
set_option maxHeartbeats 8000000 in
set_option maxRecDepth 100000 in
theorem w6twice_once14f (k : Nat) (m : Ms) (Ai Ao : Option Addr) (ci co : Nat) (o1 : ByteArray) (w : World) (hai : Kd.C k51 w Ai m.ias.length m.ias) (hci : m.ias.length ≤ ci) (hao : Kd.C k42 w Ao m.opts.length m.opts) (hco : m.opts.length ≤ co)
    (haw : tenancylaw16_awake.f 30 = some true) (es t : ByteArray)  (hen : wire6_Encode.f k m.ty m.xid m.cl m.sv m.ias m.code m.rap m.acc m.again m.opts = some (es, 0)) (hem : opt6_Emit.f [(⟨14, o1⟩ : S42)] = some (t, 0)) (l : List S42) (pe : Int) (hp : opt6_Parse.f k (es.extract 4 es.size) = some (l, pe)) (md : Ms) (er : Int) (hd : wire6_Decode.f k (es ++ t) = some (md, er)) (hsz : 4 ≤ es.size ∧ es.size + t.size ≤ 65507) (hl : l.length < 128) (hx : m.rap = false) :
    Calls Try.prog 7 #[.agg #[.int .i64 m.ty, .int .u32 m.xid, .string m.cl, .string m.sv, .slice Ai m.ias.length ci, .int .i64 m.code, .bool m.rap, .bool m.acc, .int .i64 m.again, .slice Ao m.opts.length co], .agg #[.int .u16 14, .string o1]] w fun e w' => e = .returned (.bool true) ∧ Below w.heap.size w w' := by
  have hu26 := Try.underlying26
  have hi26 : (Try.prog.info? 26).map (·.size) = some 10 := by kernel_rfl
  have HAI := Aside0.mk hai
  have HCI := Aside0.mk hci
  have HAO := Aside0.mk hao
  have HCO := Aside0.mk hco
  have HAW := Aside0.mk haw
  have HEN := Aside0.mk hen
  have HEM := Aside0.mk hem
  have HP := Aside0.mk hp
  have HD := Aside0.mk hd
  have HSZ := Aside0.mk hsz
  have HL := Aside0.mk hl
  have HX := Aside0.mk hx
  clear hai hci hao hco haw hen hem hp hd hsz hl hx
  have hu42 := Try.underlying42
  have hi42 : (Try.prog.info? 42).map (·.size) = some 2 := by kernel_rfl
  have BM := Aside0.mk (blk_alloc (blk_new w (.cells #[.int .i64 m.ty, .int .u32 m.xid, .string m.cl, .string m.sv, .slice Ai m.ias.length ci, .int .i64 m.code, .bool m.rap, .bool m.acc, .int .i64 m.again, .slice Ao m.opts.length co] 26)) (.cells #[.int .u16 14, .string o1] 42))
  have BO := Aside0.mk (blk_new (w.alloc (.cells #[.int .i64 m.ty, .int .u32 m.xid, .string m.cl, .string m.sv, .slice Ai m.ias.length ci, .int .i64 m.code, .bool m.rap, .bool m.acc, .int .i64 m.again, .slice Ao m.opts.length co] 26)) (.cells #[.int .u16 14, .string o1] 42))
  have HB := Aside0.mk (below_alloc (below_alloc (Below.refl _ w) (.cells #[.int .i64 m.ty, .int .u32 m.xid, .string m.cl, .string m.sv, .slice Ai m.ias.length ci, .int .i64 m.code, .bool m.rap, .bool m.acc, .int .i64 m.again, .slice Ao m.opts.length co] 26)) (.cells #[.int .u16 14, .string o1] 42))
  go_enter Try.func7, Try.ntmps7
  go_upto_region 1 with fail
  (try simp only [World.size_alloc] at BO)
  generalize World.alloc (World.alloc w _) _ = W0 at BM BO HB ⊢
  obtain ⟨gm, hgm⟩ : ∃ gm, gm = w.heap.size := ⟨_, rfl⟩
  obtain ⟨go_, hgo⟩ : ∃ go_, go_ = w.heap.size + 1 := ⟨_, rfl⟩
  rw [← hgo] at BO
  rw [← hgm] at BM
  rw [← hgo]
  rw [show (Value.pointer (some ⟨w.heap.size, 0, none⟩)) = .pointer (some ⟨gm, 0, none⟩) by rw [hgm]]
  clear hgm hgo
  go_upto_region 4 with (first | (go_at_call 9; refine (tenancylaw16_awake.calls 30 true _ HAW.out).mono ?_; rintro e wb ⟨rfl, hb⟩; have BMb := Aside0.mk (blk_below BM.out hb); have BOb := Aside0.mk (blk_below BO.out hb); have HBb := Aside0.mk (below_step HB.out hb); clear hb) | ((with_reducible refine gate_dst (N := 17) rfl ?_); (try (refine gate_guard (by rfl) ?_; dsimp only)); refine XBox.loadL_ 17 rfl rfl 26 rfl gm rfl _ BMb.out hu26 rfl hi26 ?_; simp only [Act.put, List.setIfInBounds_toArray, List.set_cons_zero, List.set_cons_succ]) | (go_at_call 13; refine (wire6_Encode.calls k m.ty m.xid m.cl m.sv Ai ci m.ias m.code m.rap m.acc m.again Ao co m.opts es 0 _ (Kd.C_below HAI.out HBb.out) HCI.out (Kd.C_below HAO.out HBb.out) HCO.out HEN.out).mono ?_; rintro e wc ⟨rfl, hb⟩; have BMc := Aside0.mk (blk_below BMb.out hb); have BOc := Aside0.mk (blk_below BOb.out hb); have HBc := Aside0.mk (below_step HBb.out hb); clear hb))
  clear BM BMb BO BOb HB HBb
  go_upto_region 5 with (first | ((with_reducible refine gate_dst (N := 22) rfl ?_); refine XBox.loadL_ 22 rfl rfl 42 rfl go_ rfl _ BOc.out hu42 rfl hi42 ?_; simp only [Act.put, List.setIfInBounds_toArray, List.set_cons_zero, List.set_cons_succ]) | (go_at_call 20; have BX := blk_new wc (.cells #[.int .u16 14, .string o1] 42); have BMd := Aside0.mk (blk_alloc BMc.out (.cells #[.int .u16 14, .string o1] 42)); have BOd := Aside0.mk (blk_alloc BOc.out (.cells #[.int .u16 14, .string o1] 42)); have HBd := Aside0.mk (below_alloc HBc.out (.cells #[.int .u16 14, .string o1] 42)); refine (opt6_Emit.calls _ 1 [(⟨14, o1⟩ : S42)] t 0 _ (optOne (o := ⟨14, o1⟩) BX) (Nat.le_refl 1) HEM.out).mono ?_; rintro e we ⟨rfl, hb⟩; have BMe := Aside0.mk (blk_below BMd.out hb); have BOe := Aside0.mk (blk_below BOd.out hb); have HBe := Aside0.mk (below_step HBd.out hb); clear hb BX BMd BOd HBd))
  clear BMc BOc HBc
  have hz0 : (es.size : Int) + (t.size : Int) ≤ 65507 := by have := HSZ.out.2; omega
  have hz1 : ¬ (65507 : Int) < (es.size : Int) + (t.size : Int) := by omega
  have hz2 : wrap64 ((es.size : Int) + (t.size : Int)) = (es.size : Int) + (t.size : Int) := Go.IntWalk.wrap64_in _ (by omega)
  go_upto_region 7 with fail
  clear hz0 hz1 hz2
  have h41 : (4 ≤ es.size) = True := eq_true HSZ.out.1
  have h42 : ((4 : Int) ≤ (es.size : Int)) = True := eq_true (by have := HSZ.out.1; omega)
  go_upto_region 8 with (go_at_call 19; refine (opt6_Parse.calls k (es.extract 4 es.size) l pe _ HP.out).mono ?_; rintro e wp ⟨v0, rfl, RL, hb⟩; obtain ⟨Al, cl, rfl⟩ := Kd.R_slice RL; clear RL; have BMp := Aside0.mk (blk_below BMe.out hb); have BOp := Aside0.mk (blk_below BOe.out hb); have HBp := Aside0.mk (below_step HBe.out hb); clear hb)
  clear h41 h42 BMe BOe HBe
  have hs : es.size + t.size ≤ 9223372036854775807 := by have := HSZ.out.2; omega
  go_upto_region 9 with (go_at_call 17; refine (wire6_Decode.calls k (es ++ t) md er _ HD.out).mono ?_; rintro e wg ⟨vi, vo, rfl, RI, RO, hb⟩; obtain ⟨Aj, cj, rfl, hl1, hk1⟩ := Kd.R_reads RI; obtain ⟨Ap, cp, rfl, hl2, hk2⟩ := Kd.R_reads RO; have HJ := Aside0.mk (And.intro hl1 hk1); have HQ := Aside0.mk (And.intro hl2 hk2); clear RI RO hl1 hk1 hl2 hk2; dsimp only [Ms.row]; have BMg := Aside0.mk (blk_below BMp.out hb); have BOg := Aside0.mk (blk_below BOp.out hb); have HBg := Aside0.mk (below_step HBp.out hb); clear hb)
  clear hs BMp BOp HBp
  have BN := Aside0.mk (blk_new wg (.cells #[.int .i64 md.ty, .int .u32 md.xid, .string md.cl, .string md.sv, .slice Aj md.ias.length cj, .int .i64 md.code, .bool md.rap, .bool md.acc, .int .i64 md.again, .slice Ap md.opts.length cp] 26))
  have BMh := Aside0.mk (blk_alloc BMg.out (.cells #[.int .i64 md.ty, .int .u32 md.xid, .string md.cl, .string md.sv, .slice Aj md.ias.length cj, .int .i64 md.code, .bool md.rap, .bool md.acc, .int .i64 md.again, .slice Ap md.opts.length cp] 26))
  have BOh := Aside0.mk (blk_alloc BOg.out (.cells #[.int .i64 md.ty, .int .u32 md.xid, .string md.cl, .string md.sv, .slice Aj md.ias.length cj, .int .i64 md.code, .bool md.rap, .bool md.acc, .int .i64 md.again, .slice Ap md.opts.length cp] 26))
  have HBh := Aside0.mk (below_alloc HBg.out (.cells #[.int .i64 md.ty, .int .u32 md.xid, .string md.cl, .string md.sv, .slice Aj md.ias.length cj, .int .i64 md.code, .bool md.rap, .bool md.acc, .int .i64 md.again, .slice Ap md.opts.length cp] 26))
  have HJh := Aside0.mk (Kd.C_below HJ.out.2 (below_alloc (Below.refl _ wg) (.cells #[.int .i64 md.ty, .int .u32 md.xid, .string md.cl, .string md.sv, .slice Aj md.ias.length cj, .int .i64 md.code, .bool md.rap, .bool md.acc, .int .i64 md.again, .slice Ap md.opts.length cp] 26)))
  have HQh := Aside0.mk (Kd.C_below HQ.out.2 (below_alloc (Below.refl _ wg) (.cells #[.int .i64 md.ty, .int .u32 md.xid, .string md.cl, .string md.sv, .slice Aj md.ias.length cj, .int .i64 md.code, .bool md.rap, .bool md.acc, .int .i64 md.again, .slice Ap md.opts.length cp] 26)))
  clear BMg BOg HBg HJ HQ
  generalize wg.alloc (.cells #[.int .i64 md.ty, .int .u32 md.xid, .string md.cl, .string md.sv, .slice Aj md.ias.length cj, .int .i64 md.code, .bool md.rap, .bool md.acc, .int .i64 md.again, .slice Ap md.opts.length cp] 26) = wh at BN BMh BOh HBh HJh HQh ⊢
  generalize wg.heap.size = gn at BN ⊢
  have hl1 := HL.out
  have hl2 : ¬ (128 : Int) ≤ (l.length : Int) := by omega
  have hl3 : (l.length : Int) < 128 := by omega
  have hm2 : wh.cell? ⟨gm, 2, none⟩ = some (.string m.cl) := (blk_cell BMh.out 2).trans rfl
  have hm3 : wh.cell? ⟨gm, 3, none⟩ = some (.string m.sv) := (blk_cell BMh.out 3).trans rfl
  have hm5 : wh.cell? ⟨gm, 5, none⟩ = some (.int .i64 m.code) := (blk_cell BMh.out 5).trans rfl
  have hm6 : wh.cell? ⟨gm, 6, none⟩ = some (.bool m.rap) := (blk_cell BMh.out 6).trans rfl
  have hm7 : wh.cell? ⟨gm, 7, none⟩ = some (.bool m.acc) := (blk_cell BMh.out 7).trans rfl
  have hm8 : wh.cell? ⟨gm, 8, none⟩ = some (.int .i64 m.again) := (blk_cell BMh.out 8).trans rfl
  have ho0 : wh.cell? ⟨go_, 0, none⟩ = some (.int .u16 14) := (blk_cell BOh.out 0).trans rfl
  have hx := HX.out
  go_wp2
  go_ret
  exact ⟨rfl, by first | exact HBh.out | exact below_drew1 HBh.out | exact pw_below_drewN HBh.out _⟩
set_option maxHeartbeats 8000000 in
set_option maxRecDepth 100000 in
theorem w6twice_once19t (k : Nat) (m : Ms) (Ai Ao : Option Addr) (ci co : Nat) (o1 : ByteArray) (w : World) (hai : Kd.C k51 w Ai m.ias.length m.ias) (hci : m.ias.length ≤ ci) (hao : Kd.C k42 w Ao m.opts.length m.opts) (hco : m.opts.length ≤ co)
    (haw : tenancylaw16_awake.f 30 = some true) (es t : ByteArray)  (hen : wire6_Encode.f k m.ty m.xid m.cl m.sv m.ias m.code m.rap m.acc m.again m.opts = some (es, 0)) (hem : opt6_Emit.f [(⟨19, o1⟩ : S42)] = some (t, 0)) (l : List S42) (pe : Int) (hp : opt6_Parse.f k (es.extract 4 es.size) = some (l, pe)) (md : Ms) (hd : wire6_Decode.f k (es ++ t) = some (md, 130)) (hsz : 4 ≤ es.size ∧ es.size + t.size ≤ 65507) (hl : l.length < 128) (hx : (m.again != 0) = true) :
    Calls Try.prog 7 #[.agg #[.int .i64 m.ty, .int .u32 m.xid, .string m.cl, .string m.sv, .slice Ai m.ias.length ci, .int .i64 m.code, .bool m.rap, .bool m.acc, .int .i64 m.again, .slice Ao m.opts.length co], .agg #[.int .u16 19, .string o1]] w fun e w' => e = .returned (.bool true) ∧ Below w.heap.size w w' := by
  have hu26 := Try.underlying26
  have hi26 : (Try.prog.info? 26).map (·.size) = some 10 := by kernel_rfl
  have HAI := Aside0.mk hai
  have HCI := Aside0.mk hci
  have HAO := Aside0.mk hao
  have HCO := Aside0.mk hco
  have HAW := Aside0.mk haw
  have HEN := Aside0.mk hen
  have HEM := Aside0.mk hem
  have HP := Aside0.mk hp
  have HD := Aside0.mk hd
  have HSZ := Aside0.mk hsz
  have HL := Aside0.mk hl
  have HX := Aside0.mk hx
  clear hai hci hao hco haw hen hem hp hd hsz hl hx
  have hu42 := Try.underlying42
  have hi42 : (Try.prog.info? 42).map (·.size) = some 2 := by kernel_rfl
  have BM := Aside0.mk (blk_alloc (blk_new w (.cells #[.int .i64 m.ty, .int .u32 m.xid, .string m.cl, .string m.sv, .slice Ai m.ias.length ci, .int .i64 m.code, .bool m.rap, .bool m.acc, .int .i64 m.again, .slice Ao m.opts.length co] 26)) (.cells #[.int .u16 19, .string o1] 42))
  have BO := Aside0.mk (blk_new (w.alloc (.cells #[.int .i64 m.ty, .int .u32 m.xid, .string m.cl, .string m.sv, .slice Ai m.ias.length ci, .int .i64 m.code, .bool m.rap, .bool m.acc, .int .i64 m.again, .slice Ao m.opts.length co] 26)) (.cells #[.int .u16 19, .string o1] 42))
  have HB := Aside0.mk (below_alloc (below_alloc (Below.refl _ w) (.cells #[.int .i64 m.ty, .int .u32 m.xid, .string m.cl, .string m.sv, .slice Ai m.ias.length ci, .int .i64 m.code, .bool m.rap, .bool m.acc, .int .i64 m.again, .slice Ao m.opts.length co] 26)) (.cells #[.int .u16 19, .string o1] 42))
  go_enter Try.func7, Try.ntmps7
  go_upto_region 1 with fail
  (try simp only [World.size_alloc] at BO)
  generalize World.alloc (World.alloc w _) _ = W0 at BM BO HB ⊢
  obtain ⟨gm, hgm⟩ : ∃ gm, gm = w.heap.size := ⟨_, rfl⟩
  obtain ⟨go_, hgo⟩ : ∃ go_, go_ = w.heap.size + 1 := ⟨_, rfl⟩
  rw [← hgo] at BO
  rw [← hgm] at BM
  rw [← hgo]
  rw [show (Value.pointer (some ⟨w.heap.size, 0, none⟩)) = .pointer (some ⟨gm, 0, none⟩) by rw [hgm]]
  clear hgm hgo
  go_upto_region 4 with (first | (go_at_call 9; refine (tenancylaw16_awake.calls 30 true _ HAW.out).mono ?_; rintro e wb ⟨rfl, hb⟩; have BMb := Aside0.mk (blk_below BM.out hb); have BOb := Aside0.mk (blk_below BO.out hb); have HBb := Aside0.mk (below_step HB.out hb); clear hb) | ((with_reducible refine gate_dst (N := 17) rfl ?_); (try (refine gate_guard (by rfl) ?_; dsimp only)); refine XBox.loadL_ 17 rfl rfl 26 rfl gm rfl _ BMb.out hu26 rfl hi26 ?_; simp only [Act.put, List.setIfInBounds_toArray, List.set_cons_zero, List.set_cons_succ]) | (go_at_call 13; refine (wire6_Encode.calls k m.ty m.xid m.cl m.sv Ai ci m.ias m.code m.rap m.acc m.again Ao co m.opts es 0 _ (Kd.C_below HAI.out HBb.out) HCI.out (Kd.C_below HAO.out HBb.out) HCO.out HEN.out).mono ?_; rintro e wc ⟨rfl, hb⟩; have BMc := Aside0.mk (blk_below BMb.out hb); have BOc := Aside0.mk (blk_below BOb.out hb); have HBc := Aside0.mk (below_step HBb.out hb); clear hb))
  clear BM BMb BO BOb HB HBb
  go_upto_region 5 with (first | ((with_reducible refine gate_dst (N := 22) rfl ?_); refine XBox.loadL_ 22 rfl rfl 42 rfl go_ rfl _ BOc.out hu42 rfl hi42 ?_; simp only [Act.put, List.setIfInBounds_toArray, List.set_cons_zero, List.set_cons_succ]) | (go_at_call 20; have BX := blk_new wc (.cells #[.int .u16 19, .string o1] 42); have BMd := Aside0.mk (blk_alloc BMc.out (.cells #[.int .u16 19, .string o1] 42)); have BOd := Aside0.mk (blk_alloc BOc.out (.cells #[.int .u16 19, .string o1] 42)); have HBd := Aside0.mk (below_alloc HBc.out (.cells #[.int .u16 19, .string o1] 42)); refine (opt6_Emit.calls _ 1 [(⟨19, o1⟩ : S42)] t 0 _ (optOne (o := ⟨19, o1⟩) BX) (Nat.le_refl 1) HEM.out).mono ?_; rintro e we ⟨rfl, hb⟩; have BMe := Aside0.mk (blk_below BMd.out hb); have BOe := Aside0.mk (blk_below BOd.out hb); have HBe := Aside0.mk (below_step HBd.out hb); clear hb BX BMd BOd HBd))
  clear BMc BOc HBc
  have hz0 : (es.size : Int) + (t.size : Int) ≤ 65507 := by have := HSZ.out.2; omega
  have hz1 : ¬ (65507 : Int) < (es.size : Int) + (t.size : Int) := by omega
  have hz2 : wrap64 ((es.size : Int) + (t.size : Int)) = (es.size : Int) + (t.size : Int) := Go.IntWalk.wrap64_in _ (by omega)
  go_upto_region 7 with fail
  clear hz0 hz1 hz2
  have h41 : (4 ≤ es.size) = True := eq_true HSZ.out.1
  have h42 : ((4 : Int) ≤ (es.size : Int)) = True := eq_true (by have := HSZ.out.1; omega)
  go_upto_region 8 with (go_at_call 19; refine (opt6_Parse.calls k (es.extract 4 es.size) l pe _ HP.out).mono ?_; rintro e wp ⟨v0, rfl, RL, hb⟩; obtain ⟨Al, cl, rfl⟩ := Kd.R_slice RL; clear RL; have BMp := Aside0.mk (blk_below BMe.out hb); have BOp := Aside0.mk (blk_below BOe.out hb); have HBp := Aside0.mk (below_step HBe.out hb); clear hb)
  clear h41 h42 BMe BOe HBe
  have hs : es.size + t.size ≤ 9223372036854775807 := by have := HSZ.out.2; omega
  go_upto_region 9 with (go_at_call 17; refine (wire6_Decode.calls k (es ++ t) md 130 _ HD.out).mono ?_; rintro e wg ⟨vi, vo, rfl, RI, RO, hb⟩; obtain ⟨Aj, cj, rfl, hl1, hk1⟩ := Kd.R_reads RI; obtain ⟨Ap, cp, rfl, hl2, hk2⟩ := Kd.R_reads RO; have HJ := Aside0.mk (And.intro hl1 hk1); have HQ := Aside0.mk (And.intro hl2 hk2); clear RI RO hl1 hk1 hl2 hk2; dsimp only [Ms.row]; have BMg := Aside0.mk (blk_below BMp.out hb); have BOg := Aside0.mk (blk_below BOp.out hb); have HBg := Aside0.mk (below_step HBp.out hb); clear hb)
  clear hs BMp BOp HBp
  have BN := Aside0.mk (blk_new wg (.cells #[.int .i64 md.ty, .int .u32 md.xid, .string md.cl, .string md.sv, .slice Aj md.ias.length cj, .int .i64 md.code, .bool md.rap, .bool md.acc, .int .i64 md.again, .slice Ap md.opts.length cp] 26))
  have BMh := Aside0.mk (blk_alloc BMg.out (.cells #[.int .i64 md.ty, .int .u32 md.xid, .string md.cl, .string md.sv, .slice Aj md.ias.length cj, .int .i64 md.code, .bool md.rap, .bool md.acc, .int .i64 md.again, .slice Ap md.opts.length cp] 26))
  have BOh := Aside0.mk (blk_alloc BOg.out (.cells #[.int .i64 md.ty, .int .u32 md.xid, .string md.cl, .string md.sv, .slice Aj md.ias.length cj, .int .i64 md.code, .bool md.rap, .bool md.acc, .int .i64 md.again, .slice Ap md.opts.length cp] 26))
  have HBh := Aside0.mk (below_alloc HBg.out (.cells #[.int .i64 md.ty, .int .u32 md.xid, .string md.cl, .string md.sv, .slice Aj md.ias.length cj, .int .i64 md.code, .bool md.rap, .bool md.acc, .int .i64 md.again, .slice Ap md.opts.length cp] 26))
  have HJh := Aside0.mk (Kd.C_below HJ.out.2 (below_alloc (Below.refl _ wg) (.cells #[.int .i64 md.ty, .int .u32 md.xid, .string md.cl, .string md.sv, .slice Aj md.ias.length cj, .int .i64 md.code, .bool md.rap, .bool md.acc, .int .i64 md.again, .slice Ap md.opts.length cp] 26)))
  have HQh := Aside0.mk (Kd.C_below HQ.out.2 (below_alloc (Below.refl _ wg) (.cells #[.int .i64 md.ty, .int .u32 md.xid, .string md.cl, .string md.sv, .slice Aj md.ias.length cj, .int .i64 md.code, .bool md.rap, .bool md.acc, .int .i64 md.again, .slice Ap md.opts.length cp] 26)))
  clear BMg BOg HBg HJ HQ
  generalize wg.alloc (.cells #[.int .i64 md.ty, .int .u32 md.xid, .string md.cl, .string md.sv, .slice Aj md.ias.length cj, .int .i64 md.code, .bool md.rap, .bool md.acc, .int .i64 md.again, .slice Ap md.opts.length cp] 26) = wh at BN BMh BOh HBh HJh HQh ⊢
  generalize wg.heap.size = gn at BN ⊢
  have hl1 := HL.out
  have hl2 : ¬ (128 : Int) ≤ (l.length : Int) := by omega
  have hl3 : (l.length : Int) < 128 := by omega
  have hm2 : wh.cell? ⟨gm, 2, none⟩ = some (.string m.cl) := (blk_cell BMh.out 2).trans rfl
  have hm3 : wh.cell? ⟨gm, 3, none⟩ = some (.string m.sv) := (blk_cell BMh.out 3).trans rfl
  have hm5 : wh.cell? ⟨gm, 5, none⟩ = some (.int .i64 m.code) := (blk_cell BMh.out 5).trans rfl
  have hm6 : wh.cell? ⟨gm, 6, none⟩ = some (.bool m.rap) := (blk_cell BMh.out 6).trans rfl
  have hm7 : wh.cell? ⟨gm, 7, none⟩ = some (.bool m.acc) := (blk_cell BMh.out 7).trans rfl
  have hm8 : wh.cell? ⟨gm, 8, none⟩ = some (.int .i64 m.again) := (blk_cell BMh.out 8).trans rfl
  have ho0 : wh.cell? ⟨go_, 0, none⟩ = some (.int .u16 19) := (blk_cell BOh.out 0).trans rfl
  have hx := HX.out
  go_wp2
  go_ret
  exact ⟨rfl, by first | exact HBh.out | exact below_drew1 HBh.out | exact pw_below_drewN HBh.out _⟩
set_option maxHeartbeats 8000000 in
set_option maxRecDepth 100000 in
theorem w6twice_once19f (k : Nat) (m : Ms) (Ai Ao : Option Addr) (ci co : Nat) (o1 : ByteArray) (w : World) (hai : Kd.C k51 w Ai m.ias.length m.ias) (hci : m.ias.length ≤ ci) (hao : Kd.C k42 w Ao m.opts.length m.opts) (hco : m.opts.length ≤ co)
    (haw : tenancylaw16_awake.f 30 = some true) (es t : ByteArray)  (hen : wire6_Encode.f k m.ty m.xid m.cl m.sv m.ias m.code m.rap m.acc m.again m.opts = some (es, 0)) (hem : opt6_Emit.f [(⟨19, o1⟩ : S42)] = some (t, 0)) (l : List S42) (pe : Int) (hp : opt6_Parse.f k (es.extract 4 es.size) = some (l, pe)) (md : Ms) (er : Int) (hd : wire6_Decode.f k (es ++ t) = some (md, er)) (hsz : 4 ≤ es.size ∧ es.size + t.size ≤ 65507) (hl : l.length < 128) (hx : (m.again != 0) = false) :
    Calls Try.prog 7 #[.agg #[.int .i64 m.ty, .int .u32 m.xid, .string m.cl, .string m.sv, .slice Ai m.ias.length ci, .int .i64 m.code, .bool m.rap, .bool m.acc, .int .i64 m.again, .slice Ao m.opts.length co], .agg #[.int .u16 19, .string o1]] w fun e w' => e = .returned (.bool true) ∧ Below w.heap.size w w' := by
  have hu26 := Try.underlying26
  have hi26 : (Try.prog.info? 26).map (·.size) = some 10 := by kernel_rfl
  have HAI := Aside0.mk hai
  have HCI := Aside0.mk hci
  have HAO := Aside0.mk hao
  have HCO := Aside0.mk hco
  have HAW := Aside0.mk haw
  have HEN := Aside0.mk hen
  have HEM := Aside0.mk hem
  have HP := Aside0.mk hp
  have HD := Aside0.mk hd
  have HSZ := Aside0.mk hsz
  have HL := Aside0.mk hl
  have HX := Aside0.mk hx
  clear hai hci hao hco haw hen hem hp hd hsz hl hx
  have hu42 := Try.underlying42
  have hi42 : (Try.prog.info? 42).map (·.size) = some 2 := by kernel_rfl
  have BM := Aside0.mk (blk_alloc (blk_new w (.cells #[.int .i64 m.ty, .int .u32 m.xid, .string m.cl, .string m.sv, .slice Ai m.ias.length ci, .int .i64 m.code, .bool m.rap, .bool m.acc, .int .i64 m.again, .slice Ao m.opts.length co] 26)) (.cells #[.int .u16 19, .string o1] 42))
  have BO := Aside0.mk (blk_new (w.alloc (.cells #[.int .i64 m.ty, .int .u32 m.xid, .string m.cl, .string m.sv, .slice Ai m.ias.length ci, .int .i64 m.code, .bool m.rap, .bool m.acc, .int .i64 m.again, .slice Ao m.opts.length co] 26)) (.cells #[.int .u16 19, .string o1] 42))
  have HB := Aside0.mk (below_alloc (below_alloc (Below.refl _ w) (.cells #[.int .i64 m.ty, .int .u32 m.xid, .string m.cl, .string m.sv, .slice Ai m.ias.length ci, .int .i64 m.code, .bool m.rap, .bool m.acc, .int .i64 m.again, .slice Ao m.opts.length co] 26)) (.cells #[.int .u16 19, .string o1] 42))
  go_enter Try.func7, Try.ntmps7
  go_upto_region 1 with fail
  (try simp only [World.size_alloc] at BO)
  generalize World.alloc (World.alloc w _) _ = W0 at BM BO HB ⊢
  obtain ⟨gm, hgm⟩ : ∃ gm, gm = w.heap.size := ⟨_, rfl⟩
  obtain ⟨go_, hgo⟩ : ∃ go_, go_ = w.heap.size + 1 := ⟨_, rfl⟩
  rw [← hgo] at BO
  rw [← hgm] at BM
  rw [← hgo]
  rw [show (Value.pointer (some ⟨w.heap.size, 0, none⟩)) = .pointer (some ⟨gm, 0, none⟩) by rw [hgm]]
  clear hgm hgo
  go_upto_region 4 with (first | (go_at_call 9; refine (tenancylaw16_awake.calls 30 true _ HAW.out).mono ?_; rintro e wb ⟨rfl, hb⟩; have BMb := Aside0.mk (blk_below BM.out hb); have BOb := Aside0.mk (blk_below BO.out hb); have HBb := Aside0.mk (below_step HB.out hb); clear hb) | ((with_reducible refine gate_dst (N := 17) rfl ?_); (try (refine gate_guard (by rfl) ?_; dsimp only)); refine XBox.loadL_ 17 rfl rfl 26 rfl gm rfl _ BMb.out hu26 rfl hi26 ?_; simp only [Act.put, List.setIfInBounds_toArray, List.set_cons_zero, List.set_cons_succ]) | (go_at_call 13; refine (wire6_Encode.calls k m.ty m.xid m.cl m.sv Ai ci m.ias m.code m.rap m.acc m.again Ao co m.opts es 0 _ (Kd.C_below HAI.out HBb.out) HCI.out (Kd.C_below HAO.out HBb.out) HCO.out HEN.out).mono ?_; rintro e wc ⟨rfl, hb⟩; have BMc := Aside0.mk (blk_below BMb.out hb); have BOc := Aside0.mk (blk_below BOb.out hb); have HBc := Aside0.mk (below_step HBb.out hb); clear hb))
  clear BM BMb BO BOb HB HBb
  go_upto_region 5 with (first | ((with_reducible refine gate_dst (N := 22) rfl ?_); refine XBox.loadL_ 22 rfl rfl 42 rfl go_ rfl _ BOc.out hu42 rfl hi42 ?_; simp only [Act.put, List.setIfInBounds_toArray, List.set_cons_zero, List.set_cons_succ]) | (go_at_call 20; have BX := blk_new wc (.cells #[.int .u16 19, .string o1] 42); have BMd := Aside0.mk (blk_alloc BMc.out (.cells #[.int .u16 19, .string o1] 42)); have BOd := Aside0.mk (blk_alloc BOc.out (.cells #[.int .u16 19, .string o1] 42)); have HBd := Aside0.mk (below_alloc HBc.out (.cells #[.int .u16 19, .string o1] 42)); refine (opt6_Emit.calls _ 1 [(⟨19, o1⟩ : S42)] t 0 _ (optOne (o := ⟨19, o1⟩) BX) (Nat.le_refl 1) HEM.out).mono ?_; rintro e we ⟨rfl, hb⟩; have BMe := Aside0.mk (blk_below BMd.out hb); have BOe := Aside0.mk (blk_below BOd.out hb); have HBe := Aside0.mk (below_step HBd.out hb); clear hb BX BMd BOd HBd))
  clear BMc BOc HBc
  have hz0 : (es.size : Int) + (t.size : Int) ≤ 65507 := by have := HSZ.out.2; omega
  have hz1 : ¬ (65507 : Int) < (es.size : Int) + (t.size : Int) := by omega
  have hz2 : wrap64 ((es.size : Int) + (t.size : Int)) = (es.size : Int) + (t.size : Int) := Go.IntWalk.wrap64_in _ (by omega)
  go_upto_region 7 with fail
  clear hz0 hz1 hz2
  have h41 : (4 ≤ es.size) = True := eq_true HSZ.out.1
  have h42 : ((4 : Int) ≤ (es.size : Int)) = True := eq_true (by have := HSZ.out.1; omega)
  go_upto_region 8 with (go_at_call 19; refine (opt6_Parse.calls k (es.extract 4 es.size) l pe _ HP.out).mono ?_; rintro e wp ⟨v0, rfl, RL, hb⟩; obtain ⟨Al, cl, rfl⟩ := Kd.R_slice RL; clear RL; have BMp := Aside0.mk (blk_below BMe.out hb); have BOp := Aside0.mk (blk_below BOe.out hb); have HBp := Aside0.mk (below_step HBe.out hb); clear hb)
  clear h41 h42 BMe BOe HBe
  have hs : es.size + t.size ≤ 9223372036854775807 := by have := HSZ.out.2; omega
  go_upto_region 9 with (go_at_call 17; refine (wire6_Decode.calls k (es ++ t) md er _ HD.out).mono ?_; rintro e wg ⟨vi, vo, rfl, RI, RO, hb⟩; obtain ⟨Aj, cj, rfl, hl1, hk1⟩ := Kd.R_reads RI; obtain ⟨Ap, cp, rfl, hl2, hk2⟩ := Kd.R_reads RO; have HJ := Aside0.mk (And.intro hl1 hk1); have HQ := Aside0.mk (And.intro hl2 hk2); clear RI RO hl1 hk1 hl2 hk2; dsimp only [Ms.row]; have BMg := Aside0.mk (blk_below BMp.out hb); have BOg := Aside0.mk (blk_below BOp.out hb); have HBg := Aside0.mk (below_step HBp.out hb); clear hb)
  clear hs BMp BOp HBp
  have BN := Aside0.mk (blk_new wg (.cells #[.int .i64 md.ty, .int .u32 md.xid, .string md.cl, .string md.sv, .slice Aj md.ias.length cj, .int .i64 md.code, .bool md.rap, .bool md.acc, .int .i64 md.again, .slice Ap md.opts.length cp] 26))
  have BMh := Aside0.mk (blk_alloc BMg.out (.cells #[.int .i64 md.ty, .int .u32 md.xid, .string md.cl, .string md.sv, .slice Aj md.ias.length cj, .int .i64 md.code, .bool md.rap, .bool md.acc, .int .i64 md.again, .slice Ap md.opts.length cp] 26))
  have BOh := Aside0.mk (blk_alloc BOg.out (.cells #[.int .i64 md.ty, .int .u32 md.xid, .string md.cl, .string md.sv, .slice Aj md.ias.length cj, .int .i64 md.code, .bool md.rap, .bool md.acc, .int .i64 md.again, .slice Ap md.opts.length cp] 26))
  have HBh := Aside0.mk (below_alloc HBg.out (.cells #[.int .i64 md.ty, .int .u32 md.xid, .string md.cl, .string md.sv, .slice Aj md.ias.length cj, .int .i64 md.code, .bool md.rap, .bool md.acc, .int .i64 md.again, .slice Ap md.opts.length cp] 26))
  have HJh := Aside0.mk (Kd.C_below HJ.out.2 (below_alloc (Below.refl _ wg) (.cells #[.int .i64 md.ty, .int .u32 md.xid, .string md.cl, .string md.sv, .slice Aj md.ias.length cj, .int .i64 md.code, .bool md.rap, .bool md.acc, .int .i64 md.again, .slice Ap md.opts.length cp] 26)))
  have HQh := Aside0.mk (Kd.C_below HQ.out.2 (below_alloc (Below.refl _ wg) (.cells #[.int .i64 md.ty, .int .u32 md.xid, .string md.cl, .string md.sv, .slice Aj md.ias.length cj, .int .i64 md.code, .bool md.rap, .bool md.acc, .int .i64 md.again, .slice Ap md.opts.length cp] 26)))
  clear BMg BOg HBg HJ HQ
  generalize wg.alloc (.cells #[.int .i64 md.ty, .int .u32 md.xid, .string md.cl, .string md.sv, .slice Aj md.ias.length cj, .int .i64 md.code, .bool md.rap, .bool md.acc, .int .i64 md.again, .slice Ap md.opts.length cp] 26) = wh at BN BMh BOh HBh HJh HQh ⊢
  generalize wg.heap.size = gn at BN ⊢
  have hl1 := HL.out
  have hl2 : ¬ (128 : Int) ≤ (l.length : Int) := by omega
  have hl3 : (l.length : Int) < 128 := by omega
  have hm2 : wh.cell? ⟨gm, 2, none⟩ = some (.string m.cl) := (blk_cell BMh.out 2).trans rfl
  have hm3 : wh.cell? ⟨gm, 3, none⟩ = some (.string m.sv) := (blk_cell BMh.out 3).trans rfl
  have hm5 : wh.cell? ⟨gm, 5, none⟩ = some (.int .i64 m.code) := (blk_cell BMh.out 5).trans rfl
  have hm6 : wh.cell? ⟨gm, 6, none⟩ = some (.bool m.rap) := (blk_cell BMh.out 6).trans rfl
  have hm7 : wh.cell? ⟨gm, 7, none⟩ = some (.bool m.acc) := (blk_cell BMh.out 7).trans rfl
  have hm8 : wh.cell? ⟨gm, 8, none⟩ = some (.int .i64 m.again) := (blk_cell BMh.out 8).trans rfl
  have ho0 : wh.cell? ⟨go_, 0, none⟩ = some (.int .u16 19) := (blk_cell BOh.out 0).trans rfl
  have hx := HX.out
  go_wp2
  go_ret
  exact ⟨rfl, by first | exact HBh.out | exact below_drew1 HBh.out | exact pw_below_drewN HBh.out _⟩
set_option maxHeartbeats 8000000 in
set_option maxRecDepth 100000 in
theorem w6twice_once20t (k : Nat) (m : Ms) (Ai Ao : Option Addr) (ci co : Nat) (o1 : ByteArray) (w : World) (hai : Kd.C k51 w Ai m.ias.length m.ias) (hci : m.ias.length ≤ ci) (hao : Kd.C k42 w Ao m.opts.length m.opts) (hco : m.opts.length ≤ co)
    (haw : tenancylaw16_awake.f 30 = some true) (es t : ByteArray)  (hen : wire6_Encode.f k m.ty m.xid m.cl m.sv m.ias m.code m.rap m.acc m.again m.opts = some (es, 0)) (hem : opt6_Emit.f [(⟨20, o1⟩ : S42)] = some (t, 0)) (l : List S42) (pe : Int) (hp : opt6_Parse.f k (es.extract 4 es.size) = some (l, pe)) (md : Ms) (hd : wire6_Decode.f k (es ++ t) = some (md, 130)) (hsz : 4 ≤ es.size ∧ es.size + t.size ≤ 65507) (hl : l.length < 128) (hx : m.acc = true) :
    Calls Try.prog 7 #[.agg #[.int .i64 m.ty, .int .u32 m.xid, .string m.cl, .string m.sv, .slice Ai m.ias.length ci, .int .i64 m.code, .bool m.rap, .bool m.acc, .int .i64 m.again, .slice Ao m.opts.length co], .agg #[.int .u16 20, .string o1]] w fun e w' => e = .returned (.bool true) ∧ Below w.heap.size w w' := by
  have hu26 := Try.underlying26
  have hi26 : (Try.prog.info? 26).map (·.size) = some 10 := by kernel_rfl
  have HAI := Aside0.mk hai
  have HCI := Aside0.mk hci
  have HAO := Aside0.mk hao
  have HCO := Aside0.mk hco
  have HAW := Aside0.mk haw
  have HEN := Aside0.mk hen
  have HEM := Aside0.mk hem
  have HP := Aside0.mk hp
  have HD := Aside0.mk hd
  have HSZ := Aside0.mk hsz
  have HL := Aside0.mk hl
  have HX := Aside0.mk hx
  clear hai hci hao hco haw hen hem hp hd hsz hl hx
  have hu42 := Try.underlying42
  have hi42 : (Try.prog.info? 42).map (·.size) = some 2 := by kernel_rfl
  have BM := Aside0.mk (blk_alloc (blk_new w (.cells #[.int .i64 m.ty, .int .u32 m.xid, .string m.cl, .string m.sv, .slice Ai m.ias.length ci, .int .i64 m.code, .bool m.rap, .bool m.acc, .int .i64 m.again, .slice Ao m.opts.length co] 26)) (.cells #[.int .u16 20, .string o1] 42))
  have BO := Aside0.mk (blk_new (w.alloc (.cells #[.int .i64 m.ty, .int .u32 m.xid, .string m.cl, .string m.sv, .slice Ai m.ias.length ci, .int .i64 m.code, .bool m.rap, .bool m.acc, .int .i64 m.again, .slice Ao m.opts.length co] 26)) (.cells #[.int .u16 20, .string o1] 42))
  have HB := Aside0.mk (below_alloc (below_alloc (Below.refl _ w) (.cells #[.int .i64 m.ty, .int .u32 m.xid, .string m.cl, .string m.sv, .slice Ai m.ias.length ci, .int .i64 m.code, .bool m.rap, .bool m.acc, .int .i64 m.again, .slice Ao m.opts.length co] 26)) (.cells #[.int .u16 20, .string o1] 42))
  go_enter Try.func7, Try.ntmps7
  go_upto_region 1 with fail
  (try simp only [World.size_alloc] at BO)
  generalize World.alloc (World.alloc w _) _ = W0 at BM BO HB ⊢
  obtain ⟨gm, hgm⟩ : ∃ gm, gm = w.heap.size := ⟨_, rfl⟩
  obtain ⟨go_, hgo⟩ : ∃ go_, go_ = w.heap.size + 1 := ⟨_, rfl⟩
  rw [← hgo] at BO
  rw [← hgm] at BM
  rw [← hgo]
  rw [show (Value.pointer (some ⟨w.heap.size, 0, none⟩)) = .pointer (some ⟨gm, 0, none⟩) by rw [hgm]]
  clear hgm hgo
  go_upto_region 4 with (first | (go_at_call 9; refine (tenancylaw16_awake.calls 30 true _ HAW.out).mono ?_; rintro e wb ⟨rfl, hb⟩; have BMb := Aside0.mk (blk_below BM.out hb); have BOb := Aside0.mk (blk_below BO.out hb); have HBb := Aside0.mk (below_step HB.out hb); clear hb) | ((with_reducible refine gate_dst (N := 17) rfl ?_); (try (refine gate_guard (by rfl) ?_; dsimp only)); refine XBox.loadL_ 17 rfl rfl 26 rfl gm rfl _ BMb.out hu26 rfl hi26 ?_; simp only [Act.put, List.setIfInBounds_toArray, List.set_cons_zero, List.set_cons_succ]) | (go_at_call 13; refine (wire6_Encode.calls k m.ty m.xid m.cl m.sv Ai ci m.ias m.code m.rap m.acc m.again Ao co m.opts es 0 _ (Kd.C_below HAI.out HBb.out) HCI.out (Kd.C_below HAO.out HBb.out) HCO.out HEN.out).mono ?_; rintro e wc ⟨rfl, hb⟩; have BMc := Aside0.mk (blk_below BMb.out hb); have BOc := Aside0.mk (blk_below BOb.out hb); have HBc := Aside0.mk (below_step HBb.out hb); clear hb))
  clear BM BMb BO BOb HB HBb
  go_upto_region 5 with (first | ((with_reducible refine gate_dst (N := 22) rfl ?_); refine XBox.loadL_ 22 rfl rfl 42 rfl go_ rfl _ BOc.out hu42 rfl hi42 ?_; simp only [Act.put, List.setIfInBounds_toArray, List.set_cons_zero, List.set_cons_succ]) | (go_at_call 20; have BX := blk_new wc (.cells #[.int .u16 20, .string o1] 42); have BMd := Aside0.mk (blk_alloc BMc.out (.cells #[.int .u16 20, .string o1] 42)); have BOd := Aside0.mk (blk_alloc BOc.out (.cells #[.int .u16 20, .string o1] 42)); have HBd := Aside0.mk (below_alloc HBc.out (.cells #[.int .u16 20, .string o1] 42)); refine (opt6_Emit.calls _ 1 [(⟨20, o1⟩ : S42)] t 0 _ (optOne (o := ⟨20, o1⟩) BX) (Nat.le_refl 1) HEM.out).mono ?_; rintro e we ⟨rfl, hb⟩; have BMe := Aside0.mk (blk_below BMd.out hb); have BOe := Aside0.mk (blk_below BOd.out hb); have HBe := Aside0.mk (below_step HBd.out hb); clear hb BX BMd BOd HBd))
  clear BMc BOc HBc
  have hz0 : (es.size : Int) + (t.size : Int) ≤ 65507 := by have := HSZ.out.2; omega
  have hz1 : ¬ (65507 : Int) < (es.size : Int) + (t.size : Int) := by omega
  have hz2 : wrap64 ((es.size : Int) + (t.size : Int)) = (es.size : Int) + (t.size : Int) := Go.IntWalk.wrap64_in _ (by omega)
  go_upto_region 7 with fail
  clear hz0 hz1 hz2
  have h41 : (4 ≤ es.size) = True := eq_true HSZ.out.1
  have h42 : ((4 : Int) ≤ (es.size : Int)) = True := eq_true (by have := HSZ.out.1; omega)
  go_upto_region 8 with (go_at_call 19; refine (opt6_Parse.calls k (es.extract 4 es.size) l pe _ HP.out).mono ?_; rintro e wp ⟨v0, rfl, RL, hb⟩; obtain ⟨Al, cl, rfl⟩ := Kd.R_slice RL; clear RL; have BMp := Aside0.mk (blk_below BMe.out hb); have BOp := Aside0.mk (blk_below BOe.out hb); have HBp := Aside0.mk (below_step HBe.out hb); clear hb)
  clear h41 h42 BMe BOe HBe
  have hs : es.size + t.size ≤ 9223372036854775807 := by have := HSZ.out.2; omega
  go_upto_region 9 with (go_at_call 17; refine (wire6_Decode.calls k (es ++ t) md 130 _ HD.out).mono ?_; rintro e wg ⟨vi, vo, rfl, RI, RO, hb⟩; obtain ⟨Aj, cj, rfl, hl1, hk1⟩ := Kd.R_reads RI; obtain ⟨Ap, cp, rfl, hl2, hk2⟩ := Kd.R_reads RO; have HJ := Aside0.mk (And.intro hl1 hk1); have HQ := Aside0.mk (And.intro hl2 hk2); clear RI RO hl1 hk1 hl2 hk2; dsimp only [Ms.row]; have BMg := Aside0.mk (blk_below BMp.out hb); have BOg := Aside0.mk (blk_below BOp.out hb); have HBg := Aside0.mk (below_step HBp.out hb); clear hb)
  clear hs BMp BOp HBp
  have BN := Aside0.mk (blk_new wg (.cells #[.int .i64 md.ty, .int .u32 md.xid, .string md.cl, .string md.sv, .slice Aj md.ias.length cj, .int .i64 md.code, .bool md.rap, .bool md.acc, .int .i64 md.again, .slice Ap md.opts.length cp] 26))
  have BMh := Aside0.mk (blk_alloc BMg.out (.cells #[.int .i64 md.ty, .int .u32 md.xid, .string md.cl, .string md.sv, .slice Aj md.ias.length cj, .int .i64 md.code, .bool md.rap, .bool md.acc, .int .i64 md.again, .slice Ap md.opts.length cp] 26))
  have BOh := Aside0.mk (blk_alloc BOg.out (.cells #[.int .i64 md.ty, .int .u32 md.xid, .string md.cl, .string md.sv, .slice Aj md.ias.length cj, .int .i64 md.code, .bool md.rap, .bool md.acc, .int .i64 md.again, .slice Ap md.opts.length cp] 26))
  have HBh := Aside0.mk (below_alloc HBg.out (.cells #[.int .i64 md.ty, .int .u32 md.xid, .string md.cl, .string md.sv, .slice Aj md.ias.length cj, .int .i64 md.code, .bool md.rap, .bool md.acc, .int .i64 md.again, .slice Ap md.opts.length cp] 26))
  have HJh := Aside0.mk (Kd.C_below HJ.out.2 (below_alloc (Below.refl _ wg) (.cells #[.int .i64 md.ty, .int .u32 md.xid, .string md.cl, .string md.sv, .slice Aj md.ias.length cj, .int .i64 md.code, .bool md.rap, .bool md.acc, .int .i64 md.again, .slice Ap md.opts.length cp] 26)))
  have HQh := Aside0.mk (Kd.C_below HQ.out.2 (below_alloc (Below.refl _ wg) (.cells #[.int .i64 md.ty, .int .u32 md.xid, .string md.cl, .string md.sv, .slice Aj md.ias.length cj, .int .i64 md.code, .bool md.rap, .bool md.acc, .int .i64 md.again, .slice Ap md.opts.length cp] 26)))
  clear BMg BOg HBg HJ HQ
  generalize wg.alloc (.cells #[.int .i64 md.ty, .int .u32 md.xid, .string md.cl, .string md.sv, .slice Aj md.ias.length cj, .int .i64 md.code, .bool md.rap, .bool md.acc, .int .i64 md.again, .slice Ap md.opts.length cp] 26) = wh at BN BMh BOh HBh HJh HQh ⊢
  generalize wg.heap.size = gn at BN ⊢
  have hl1 := HL.out
  have hl2 : ¬ (128 : Int) ≤ (l.length : Int) := by omega
  have hl3 : (l.length : Int) < 128 := by omega
  have hm2 : wh.cell? ⟨gm, 2, none⟩ = some (.string m.cl) := (blk_cell BMh.out 2).trans rfl
  have hm3 : wh.cell? ⟨gm, 3, none⟩ = some (.string m.sv) := (blk_cell BMh.out 3).trans rfl
  have hm5 : wh.cell? ⟨gm, 5, none⟩ = some (.int .i64 m.code) := (blk_cell BMh.out 5).trans rfl
  have hm6 : wh.cell? ⟨gm, 6, none⟩ = some (.bool m.rap) := (blk_cell BMh.out 6).trans rfl
  have hm7 : wh.cell? ⟨gm, 7, none⟩ = some (.bool m.acc) := (blk_cell BMh.out 7).trans rfl
  have hm8 : wh.cell? ⟨gm, 8, none⟩ = some (.int .i64 m.again) := (blk_cell BMh.out 8).trans rfl
  have ho0 : wh.cell? ⟨go_, 0, none⟩ = some (.int .u16 20) := (blk_cell BOh.out 0).trans rfl
  have hx := HX.out
  go_wp2
  go_ret
  exact ⟨rfl, by first | exact HBh.out | exact below_drew1 HBh.out | exact pw_below_drewN HBh.out _⟩
set_option maxHeartbeats 8000000 in
set_option maxRecDepth 100000 in
theorem w6twice_once20f (k : Nat) (m : Ms) (Ai Ao : Option Addr) (ci co : Nat) (o1 : ByteArray) (w : World) (hai : Kd.C k51 w Ai m.ias.length m.ias) (hci : m.ias.length ≤ ci) (hao : Kd.C k42 w Ao m.opts.length m.opts) (hco : m.opts.length ≤ co)
    (haw : tenancylaw16_awake.f 30 = some true) (es t : ByteArray)  (hen : wire6_Encode.f k m.ty m.xid m.cl m.sv m.ias m.code m.rap m.acc m.again m.opts = some (es, 0)) (hem : opt6_Emit.f [(⟨20, o1⟩ : S42)] = some (t, 0)) (l : List S42) (pe : Int) (hp : opt6_Parse.f k (es.extract 4 es.size) = some (l, pe)) (md : Ms) (er : Int) (hd : wire6_Decode.f k (es ++ t) = some (md, er)) (hsz : 4 ≤ es.size ∧ es.size + t.size ≤ 65507) (hl : l.length < 128) (hx : m.acc = false) :
    Calls Try.prog 7 #[.agg #[.int .i64 m.ty, .int .u32 m.xid, .string m.cl, .string m.sv, .slice Ai m.ias.length ci, .int .i64 m.code, .bool m.rap, .bool m.acc, .int .i64 m.again, .slice Ao m.opts.length co], .agg #[.int .u16 20, .string o1]] w fun e w' => e = .returned (.bool true) ∧ Below w.heap.size w w' := by
  have hu26 := Try.underlying26
  have hi26 : (Try.prog.info? 26).map (·.size) = some 10 := by kernel_rfl
  have HAI := Aside0.mk hai
  have HCI := Aside0.mk hci
  have HAO := Aside0.mk hao
  have HCO := Aside0.mk hco
  have HAW := Aside0.mk haw
  have HEN := Aside0.mk hen
  have HEM := Aside0.mk hem
  have HP := Aside0.mk hp
  have HD := Aside0.mk hd
  have HSZ := Aside0.mk hsz
  have HL := Aside0.mk hl
  have HX := Aside0.mk hx
  clear hai hci hao hco haw hen hem hp hd hsz hl hx
  have hu42 := Try.underlying42
  have hi42 : (Try.prog.info? 42).map (·.size) = some 2 := by kernel_rfl
  have BM := Aside0.mk (blk_alloc (blk_new w (.cells #[.int .i64 m.ty, .int .u32 m.xid, .string m.cl, .string m.sv, .slice Ai m.ias.length ci, .int .i64 m.code, .bool m.rap, .bool m.acc, .int .i64 m.again, .slice Ao m.opts.length co] 26)) (.cells #[.int .u16 20, .string o1] 42))
  have BO := Aside0.mk (blk_new (w.alloc (.cells #[.int .i64 m.ty, .int .u32 m.xid, .string m.cl, .string m.sv, .slice Ai m.ias.length ci, .int .i64 m.code, .bool m.rap, .bool m.acc, .int .i64 m.again, .slice Ao m.opts.length co] 26)) (.cells #[.int .u16 20, .string o1] 42))
  have HB := Aside0.mk (below_alloc (below_alloc (Below.refl _ w) (.cells #[.int .i64 m.ty, .int .u32 m.xid, .string m.cl, .string m.sv, .slice Ai m.ias.length ci, .int .i64 m.code, .bool m.rap, .bool m.acc, .int .i64 m.again, .slice Ao m.opts.length co] 26)) (.cells #[.int .u16 20, .string o1] 42))
  go_enter Try.func7, Try.ntmps7
  go_upto_region 1 with fail
  (try simp only [World.size_alloc] at BO)
  generalize World.alloc (World.alloc w _) _ = W0 at BM BO HB ⊢
  obtain ⟨gm, hgm⟩ : ∃ gm, gm = w.heap.size := ⟨_, rfl⟩
  obtain ⟨go_, hgo⟩ : ∃ go_, go_ = w.heap.size + 1 := ⟨_, rfl⟩
  rw [← hgo] at BO
  rw [← hgm] at BM
  rw [← hgo]
  rw [show (Value.pointer (some ⟨w.heap.size, 0, none⟩)) = .pointer (some ⟨gm, 0, none⟩) by rw [hgm]]
  clear hgm hgo
  go_upto_region 4 with (first | (go_at_call 9; refine (tenancylaw16_awake.calls 30 true _ HAW.out).mono ?_; rintro e wb ⟨rfl, hb⟩; have BMb := Aside0.mk (blk_below BM.out hb); have BOb := Aside0.mk (blk_below BO.out hb); have HBb := Aside0.mk (below_step HB.out hb); clear hb) | ((with_reducible refine gate_dst (N := 17) rfl ?_); (try (refine gate_guard (by rfl) ?_; dsimp only)); refine XBox.loadL_ 17 rfl rfl 26 rfl gm rfl _ BMb.out hu26 rfl hi26 ?_; simp only [Act.put, List.setIfInBounds_toArray, List.set_cons_zero, List.set_cons_succ]) | (go_at_call 13; refine (wire6_Encode.calls k m.ty m.xid m.cl m.sv Ai ci m.ias m.code m.rap m.acc m.again Ao co m.opts es 0 _ (Kd.C_below HAI.out HBb.out) HCI.out (Kd.C_below HAO.out HBb.out) HCO.out HEN.out).mono ?_; rintro e wc ⟨rfl, hb⟩; have BMc := Aside0.mk (blk_below BMb.out hb); have BOc := Aside0.mk (blk_below BOb.out hb); have HBc := Aside0.mk (below_step HBb.out hb); clear hb))
  clear BM BMb BO BOb HB HBb
  go_upto_region 5 with (first | ((with_reducible refine gate_dst (N := 22) rfl ?_); refine XBox.loadL_ 22 rfl rfl 42 rfl go_ rfl _ BOc.out hu42 rfl hi42 ?_; simp only [Act.put, List.setIfInBounds_toArray, List.set_cons_zero, List.set_cons_succ]) | (go_at_call 20; have BX := blk_new wc (.cells #[.int .u16 20, .string o1] 42); have BMd := Aside0.mk (blk_alloc BMc.out (.cells #[.int .u16 20, .string o1] 42)); have BOd := Aside0.mk (blk_alloc BOc.out (.cells #[.int .u16 20, .string o1] 42)); have HBd := Aside0.mk (below_alloc HBc.out (.cells #[.int .u16 20, .string o1] 42)); refine (opt6_Emit.calls _ 1 [(⟨20, o1⟩ : S42)] t 0 _ (optOne (o := ⟨20, o1⟩) BX) (Nat.le_refl 1) HEM.out).mono ?_; rintro e we ⟨rfl, hb⟩; have BMe := Aside0.mk (blk_below BMd.out hb); have BOe := Aside0.mk (blk_below BOd.out hb); have HBe := Aside0.mk (below_step HBd.out hb); clear hb BX BMd BOd HBd))
  clear BMc BOc HBc
  have hz0 : (es.size : Int) + (t.size : Int) ≤ 65507 := by have := HSZ.out.2; omega
  have hz1 : ¬ (65507 : Int) < (es.size : Int) + (t.size : Int) := by omega
  have hz2 : wrap64 ((es.size : Int) + (t.size : Int)) = (es.size : Int) + (t.size : Int) := Go.IntWalk.wrap64_in _ (by omega)
  go_upto_region 7 with fail
  clear hz0 hz1 hz2
  have h41 : (4 ≤ es.size) = True := eq_true HSZ.out.1
  have h42 : ((4 : Int) ≤ (es.size : Int)) = True := eq_true (by have := HSZ.out.1; omega)
  go_upto_region 8 with (go_at_call 19; refine (opt6_Parse.calls k (es.extract 4 es.size) l pe _ HP.out).mono ?_; rintro e wp ⟨v0, rfl, RL, hb⟩; obtain ⟨Al, cl, rfl⟩ := Kd.R_slice RL; clear RL; have BMp := Aside0.mk (blk_below BMe.out hb); have BOp := Aside0.mk (blk_below BOe.out hb); have HBp := Aside0.mk (below_step HBe.out hb); clear hb)
  clear h41 h42 BMe BOe HBe
  have hs : es.size + t.size ≤ 9223372036854775807 := by have := HSZ.out.2; omega
  go_upto_region 9 with (go_at_call 17; refine (wire6_Decode.calls k (es ++ t) md er _ HD.out).mono ?_; rintro e wg ⟨vi, vo, rfl, RI, RO, hb⟩; obtain ⟨Aj, cj, rfl, hl1, hk1⟩ := Kd.R_reads RI; obtain ⟨Ap, cp, rfl, hl2, hk2⟩ := Kd.R_reads RO; have HJ := Aside0.mk (And.intro hl1 hk1); have HQ := Aside0.mk (And.intro hl2 hk2); clear RI RO hl1 hk1 hl2 hk2; dsimp only [Ms.row]; have BMg := Aside0.mk (blk_below BMp.out hb); have BOg := Aside0.mk (blk_below BOp.out hb); have HBg := Aside0.mk (below_step HBp.out hb); clear hb)
  clear hs BMp BOp HBp
  have BN := Aside0.mk (blk_new wg (.cells #[.int .i64 md.ty, .int .u32 md.xid, .string md.cl, .string md.sv, .slice Aj md.ias.length cj, .int .i64 md.code, .bool md.rap, .bool md.acc, .int .i64 md.again, .slice Ap md.opts.length cp] 26))
  have BMh := Aside0.mk (blk_alloc BMg.out (.cells #[.int .i64 md.ty, .int .u32 md.xid, .string md.cl, .string md.sv, .slice Aj md.ias.length cj, .int .i64 md.code, .bool md.rap, .bool md.acc, .int .i64 md.again, .slice Ap md.opts.length cp] 26))
  have BOh := Aside0.mk (blk_alloc BOg.out (.cells #[.int .i64 md.ty, .int .u32 md.xid, .string md.cl, .string md.sv, .slice Aj md.ias.length cj, .int .i64 md.code, .bool md.rap, .bool md.acc, .int .i64 md.again, .slice Ap md.opts.length cp] 26))
  have HBh := Aside0.mk (below_alloc HBg.out (.cells #[.int .i64 md.ty, .int .u32 md.xid, .string md.cl, .string md.sv, .slice Aj md.ias.length cj, .int .i64 md.code, .bool md.rap, .bool md.acc, .int .i64 md.again, .slice Ap md.opts.length cp] 26))
  have HJh := Aside0.mk (Kd.C_below HJ.out.2 (below_alloc (Below.refl _ wg) (.cells #[.int .i64 md.ty, .int .u32 md.xid, .string md.cl, .string md.sv, .slice Aj md.ias.length cj, .int .i64 md.code, .bool md.rap, .bool md.acc, .int .i64 md.again, .slice Ap md.opts.length cp] 26)))
  have HQh := Aside0.mk (Kd.C_below HQ.out.2 (below_alloc (Below.refl _ wg) (.cells #[.int .i64 md.ty, .int .u32 md.xid, .string md.cl, .string md.sv, .slice Aj md.ias.length cj, .int .i64 md.code, .bool md.rap, .bool md.acc, .int .i64 md.again, .slice Ap md.opts.length cp] 26)))
  clear BMg BOg HBg HJ HQ
  generalize wg.alloc (.cells #[.int .i64 md.ty, .int .u32 md.xid, .string md.cl, .string md.sv, .slice Aj md.ias.length cj, .int .i64 md.code, .bool md.rap, .bool md.acc, .int .i64 md.again, .slice Ap md.opts.length cp] 26) = wh at BN BMh BOh HBh HJh HQh ⊢
  generalize wg.heap.size = gn at BN ⊢
  have hl1 := HL.out
  have hl2 : ¬ (128 : Int) ≤ (l.length : Int) := by omega
  have hl3 : (l.length : Int) < 128 := by omega
  have hm2 : wh.cell? ⟨gm, 2, none⟩ = some (.string m.cl) := (blk_cell BMh.out 2).trans rfl
  have hm3 : wh.cell? ⟨gm, 3, none⟩ = some (.string m.sv) := (blk_cell BMh.out 3).trans rfl
  have hm5 : wh.cell? ⟨gm, 5, none⟩ = some (.int .i64 m.code) := (blk_cell BMh.out 5).trans rfl
  have hm6 : wh.cell? ⟨gm, 6, none⟩ = some (.bool m.rap) := (blk_cell BMh.out 6).trans rfl
  have hm7 : wh.cell? ⟨gm, 7, none⟩ = some (.bool m.acc) := (blk_cell BMh.out 7).trans rfl
  have hm8 : wh.cell? ⟨gm, 8, none⟩ = some (.int .i64 m.again) := (blk_cell BMh.out 8).trans rfl
  have ho0 : wh.cell? ⟨go_, 0, none⟩ = some (.int .u16 20) := (blk_cell BOh.out 0).trans rfl
  have hx := HX.out
  go_wp2
  go_ret
  exact ⟨rfl, by first | exact HBh.out | exact below_drew1 HBh.out | exact pw_below_drewN HBh.out _⟩
set_option maxHeartbeats 8000000 in
set_option maxRecDepth 100000 in
theorem w6twice_ia3t (k : Nat) (m : Ms) (Ai Ao : Option Addr) (ci co : Nat) (o1 : ByteArray) (w : World) (hai : Kd.C k51 w Ai m.ias.length m.ias) (hci : m.ias.length ≤ ci) (hao : Kd.C k42 w Ao m.opts.length m.opts) (hco : m.opts.length ≤ co)
    (haw : tenancylaw16_awake.f 30 = some true) (es t : ByteArray)  (hen : wire6_Encode.f k m.ty m.xid m.cl m.sv m.ias m.code m.rap m.acc m.again m.opts = some (es, 0)) (hem : opt6_Emit.f [(⟨3, o1⟩ : S42)] = some (t, 0)) (l : List S42) (pe : Int) (hp : opt6_Parse.f k (es.extract 4 es.size) = some (l, pe)) (md : Ms) (er : Int) (hd : wire6_Decode.f k (es ++ t) = some (md, er)) (hsz : 4 ≤ es.size ∧ es.size + t.size ≤ 65507) (hl : l.length < 128) (hx : m.ias.length < 8) :
    Calls Try.prog 7 #[.agg #[.int .i64 m.ty, .int .u32 m.xid, .string m.cl, .string m.sv, .slice Ai m.ias.length ci, .int .i64 m.code, .bool m.rap, .bool m.acc, .int .i64 m.again, .slice Ao m.opts.length co], .agg #[.int .u16 3, .string o1]] w fun e w' => e = .returned (.bool true) ∧ Below w.heap.size w w' := by
  have hu26 := Try.underlying26
  have hi26 : (Try.prog.info? 26).map (·.size) = some 10 := by kernel_rfl
  have HAI := Aside0.mk hai
  have HCI := Aside0.mk hci
  have HAO := Aside0.mk hao
  have HCO := Aside0.mk hco
  have HAW := Aside0.mk haw
  have HEN := Aside0.mk hen
  have HEM := Aside0.mk hem
  have HP := Aside0.mk hp
  have HD := Aside0.mk hd
  have HSZ := Aside0.mk hsz
  have HL := Aside0.mk hl
  have HX := Aside0.mk hx
  clear hai hci hao hco haw hen hem hp hd hsz hl hx
  have hu42 := Try.underlying42
  have hi42 : (Try.prog.info? 42).map (·.size) = some 2 := by kernel_rfl
  have BM := Aside0.mk (blk_alloc (blk_new w (.cells #[.int .i64 m.ty, .int .u32 m.xid, .string m.cl, .string m.sv, .slice Ai m.ias.length ci, .int .i64 m.code, .bool m.rap, .bool m.acc, .int .i64 m.again, .slice Ao m.opts.length co] 26)) (.cells #[.int .u16 3, .string o1] 42))
  have BO := Aside0.mk (blk_new (w.alloc (.cells #[.int .i64 m.ty, .int .u32 m.xid, .string m.cl, .string m.sv, .slice Ai m.ias.length ci, .int .i64 m.code, .bool m.rap, .bool m.acc, .int .i64 m.again, .slice Ao m.opts.length co] 26)) (.cells #[.int .u16 3, .string o1] 42))
  have HB := Aside0.mk (below_alloc (below_alloc (Below.refl _ w) (.cells #[.int .i64 m.ty, .int .u32 m.xid, .string m.cl, .string m.sv, .slice Ai m.ias.length ci, .int .i64 m.code, .bool m.rap, .bool m.acc, .int .i64 m.again, .slice Ao m.opts.length co] 26)) (.cells #[.int .u16 3, .string o1] 42))
  go_enter Try.func7, Try.ntmps7
  go_upto_region 1 with fail
  (try simp only [World.size_alloc] at BO)
  generalize World.alloc (World.alloc w _) _ = W0 at BM BO HB ⊢
  obtain ⟨gm, hgm⟩ : ∃ gm, gm = w.heap.size := ⟨_, rfl⟩
  obtain ⟨go_, hgo⟩ : ∃ go_, go_ = w.heap.size + 1 := ⟨_, rfl⟩
  rw [← hgo] at BO
  rw [← hgm] at BM
  rw [← hgo]
  rw [show (Value.pointer (some ⟨w.heap.size, 0, none⟩)) = .pointer (some ⟨gm, 0, none⟩) by rw [hgm]]
  clear hgm hgo
  go_upto_region 4 with (first | (go_at_call 9; refine (tenancylaw16_awake.calls 30 true _ HAW.out).mono ?_; rintro e wb ⟨rfl, hb⟩; have BMb := Aside0.mk (blk_below BM.out hb); have BOb := Aside0.mk (blk_below BO.out hb); have HBb := Aside0.mk (below_step HB.out hb); clear hb) | ((with_reducible refine gate_dst (N := 17) rfl ?_); (try (refine gate_guard (by rfl) ?_; dsimp only)); refine XBox.loadL_ 17 rfl rfl 26 rfl gm rfl _ BMb.out hu26 rfl hi26 ?_; simp only [Act.put, List.setIfInBounds_toArray, List.set_cons_zero, List.set_cons_succ]) | (go_at_call 13; refine (wire6_Encode.calls k m.ty m.xid m.cl m.sv Ai ci m.ias m.code m.rap m.acc m.again Ao co m.opts es 0 _ (Kd.C_below HAI.out HBb.out) HCI.out (Kd.C_below HAO.out HBb.out) HCO.out HEN.out).mono ?_; rintro e wc ⟨rfl, hb⟩; have BMc := Aside0.mk (blk_below BMb.out hb); have BOc := Aside0.mk (blk_below BOb.out hb); have HBc := Aside0.mk (below_step HBb.out hb); clear hb))
  clear BM BMb BO BOb HB HBb
  go_upto_region 5 with (first | ((with_reducible refine gate_dst (N := 22) rfl ?_); refine XBox.loadL_ 22 rfl rfl 42 rfl go_ rfl _ BOc.out hu42 rfl hi42 ?_; simp only [Act.put, List.setIfInBounds_toArray, List.set_cons_zero, List.set_cons_succ]) | (go_at_call 20; have BX := blk_new wc (.cells #[.int .u16 3, .string o1] 42); have BMd := Aside0.mk (blk_alloc BMc.out (.cells #[.int .u16 3, .string o1] 42)); have BOd := Aside0.mk (blk_alloc BOc.out (.cells #[.int .u16 3, .string o1] 42)); have HBd := Aside0.mk (below_alloc HBc.out (.cells #[.int .u16 3, .string o1] 42)); refine (opt6_Emit.calls _ 1 [(⟨3, o1⟩ : S42)] t 0 _ (optOne (o := ⟨3, o1⟩) BX) (Nat.le_refl 1) HEM.out).mono ?_; rintro e we ⟨rfl, hb⟩; have BMe := Aside0.mk (blk_below BMd.out hb); have BOe := Aside0.mk (blk_below BOd.out hb); have HBe := Aside0.mk (below_step HBd.out hb); clear hb BX BMd BOd HBd))
  clear BMc BOc HBc
  have hz0 : (es.size : Int) + (t.size : Int) ≤ 65507 := by have := HSZ.out.2; omega
  have hz1 : ¬ (65507 : Int) < (es.size : Int) + (t.size : Int) := by omega
  have hz2 : wrap64 ((es.size : Int) + (t.size : Int)) = (es.size : Int) + (t.size : Int) := Go.IntWalk.wrap64_in _ (by omega)
  go_upto_region 7 with fail
  clear hz0 hz1 hz2
  have h41 : (4 ≤ es.size) = True := eq_true HSZ.out.1
  have h42 : ((4 : Int) ≤ (es.size : Int)) = True := eq_true (by have := HSZ.out.1; omega)
  go_upto_region 8 with (go_at_call 19; refine (opt6_Parse.calls k (es.extract 4 es.size) l pe _ HP.out).mono ?_; rintro e wp ⟨v0, rfl, RL, hb⟩; obtain ⟨Al, cl, rfl⟩ := Kd.R_slice RL; clear RL; have BMp := Aside0.mk (blk_below BMe.out hb); have BOp := Aside0.mk (blk_below BOe.out hb); have HBp := Aside0.mk (below_step HBe.out hb); clear hb)
  clear h41 h42 BMe BOe HBe
  have hs : es.size + t.size ≤ 9223372036854775807 := by have := HSZ.out.2; omega
  go_upto_region 9 with (go_at_call 17; refine (wire6_Decode.calls k (es ++ t) md er _ HD.out).mono ?_; rintro e wg ⟨vi, vo, rfl, RI, RO, hb⟩; obtain ⟨Aj, cj, rfl, hl1, hk1⟩ := Kd.R_reads RI; obtain ⟨Ap, cp, rfl, hl2, hk2⟩ := Kd.R_reads RO; have HJ := Aside0.mk (And.intro hl1 hk1); have HQ := Aside0.mk (And.intro hl2 hk2); clear RI RO hl1 hk1 hl2 hk2; dsimp only [Ms.row]; have BMg := Aside0.mk (blk_below BMp.out hb); have BOg := Aside0.mk (blk_below BOp.out hb); have HBg := Aside0.mk (below_step HBp.out hb); clear hb)
  clear hs BMp BOp HBp
  have BN := Aside0.mk (blk_new wg (.cells #[.int .i64 md.ty, .int .u32 md.xid, .string md.cl, .string md.sv, .slice Aj md.ias.length cj, .int .i64 md.code, .bool md.rap, .bool md.acc, .int .i64 md.again, .slice Ap md.opts.length cp] 26))
  have BMh := Aside0.mk (blk_alloc BMg.out (.cells #[.int .i64 md.ty, .int .u32 md.xid, .string md.cl, .string md.sv, .slice Aj md.ias.length cj, .int .i64 md.code, .bool md.rap, .bool md.acc, .int .i64 md.again, .slice Ap md.opts.length cp] 26))
  have BOh := Aside0.mk (blk_alloc BOg.out (.cells #[.int .i64 md.ty, .int .u32 md.xid, .string md.cl, .string md.sv, .slice Aj md.ias.length cj, .int .i64 md.code, .bool md.rap, .bool md.acc, .int .i64 md.again, .slice Ap md.opts.length cp] 26))
  have HBh := Aside0.mk (below_alloc HBg.out (.cells #[.int .i64 md.ty, .int .u32 md.xid, .string md.cl, .string md.sv, .slice Aj md.ias.length cj, .int .i64 md.code, .bool md.rap, .bool md.acc, .int .i64 md.again, .slice Ap md.opts.length cp] 26))
  have HJh := Aside0.mk (Kd.C_below HJ.out.2 (below_alloc (Below.refl _ wg) (.cells #[.int .i64 md.ty, .int .u32 md.xid, .string md.cl, .string md.sv, .slice Aj md.ias.length cj, .int .i64 md.code, .bool md.rap, .bool md.acc, .int .i64 md.again, .slice Ap md.opts.length cp] 26)))
  have HQh := Aside0.mk (Kd.C_below HQ.out.2 (below_alloc (Below.refl _ wg) (.cells #[.int .i64 md.ty, .int .u32 md.xid, .string md.cl, .string md.sv, .slice Aj md.ias.length cj, .int .i64 md.code, .bool md.rap, .bool md.acc, .int .i64 md.again, .slice Ap md.opts.length cp] 26)))
  clear BMg BOg HBg HJ HQ
  generalize wg.alloc (.cells #[.int .i64 md.ty, .int .u32 md.xid, .string md.cl, .string md.sv, .slice Aj md.ias.length cj, .int .i64 md.code, .bool md.rap, .bool md.acc, .int .i64 md.again, .slice Ap md.opts.length cp] 26) = wh at BN BMh BOh HBh HJh HQh ⊢
  generalize wg.heap.size = gn at BN ⊢
  have hl1 := HL.out
  have hl2 : ¬ (128 : Int) ≤ (l.length : Int) := by omega
  have hl3 : (l.length : Int) < 128 := by omega
  have hm4 : wh.cell? ⟨gm, 4, none⟩ = some (.slice Ai m.ias.length ci) := (blk_cell BMh.out 4).trans rfl
  have ho0 : wh.cell? ⟨go_, 0, none⟩ = some (.int .u16 3) := (blk_cell BOh.out 0).trans rfl
  have hx : (m.ias.length : Int) < 8 := by have := HX.out; omega
  go_wp2
  go_ret
  exact ⟨rfl, by first | exact HBh.out | exact below_drew1 HBh.out | exact pw_below_drewN HBh.out _⟩
set_option maxHeartbeats 8000000 in
set_option maxRecDepth 100000 in
theorem w6twice_ia3f (k : Nat) (m : Ms) (Ai Ao : Option Addr) (ci co : Nat) (o1 : ByteArray) (w : World) (hai : Kd.C k51 w Ai m.ias.length m.ias) (hci : m.ias.length ≤ ci) (hao : Kd.C k42 w Ao m.opts.length m.opts) (hco : m.opts.length ≤ co)
    (haw : tenancylaw16_awake.f 30 = some true) (es t : ByteArray)  (hen : wire6_Encode.f k m.ty m.xid m.cl m.sv m.ias m.code m.rap m.acc m.again m.opts = some (es, 0)) (hem : opt6_Emit.f [(⟨3, o1⟩ : S42)] = some (t, 0)) (l : List S42) (pe : Int) (hp : opt6_Parse.f k (es.extract 4 es.size) = some (l, pe)) (md : Ms) (hd : wire6_Decode.f k (es ++ t) = some (md, 6)) (hsz : 4 ≤ es.size ∧ es.size + t.size ≤ 65507) (hl : l.length < 128) (hx : 8 ≤ m.ias.length) :
    Calls Try.prog 7 #[.agg #[.int .i64 m.ty, .int .u32 m.xid, .string m.cl, .string m.sv, .slice Ai m.ias.length ci, .int .i64 m.code, .bool m.rap, .bool m.acc, .int .i64 m.again, .slice Ao m.opts.length co], .agg #[.int .u16 3, .string o1]] w fun e w' => e = .returned (.bool true) ∧ Below w.heap.size w w' := by
  have hu26 := Try.underlying26
  have hi26 : (Try.prog.info? 26).map (·.size) = some 10 := by kernel_rfl
  have HAI := Aside0.mk hai
  have HCI := Aside0.mk hci
  have HAO := Aside0.mk hao
  have HCO := Aside0.mk hco
  have HAW := Aside0.mk haw
  have HEN := Aside0.mk hen
  have HEM := Aside0.mk hem
  have HP := Aside0.mk hp
  have HD := Aside0.mk hd
  have HSZ := Aside0.mk hsz
  have HL := Aside0.mk hl
  have HX := Aside0.mk hx
  clear hai hci hao hco haw hen hem hp hd hsz hl hx
  have hu42 := Try.underlying42
  have hi42 : (Try.prog.info? 42).map (·.size) = some 2 := by kernel_rfl
  have BM := Aside0.mk (blk_alloc (blk_new w (.cells #[.int .i64 m.ty, .int .u32 m.xid, .string m.cl, .string m.sv, .slice Ai m.ias.length ci, .int .i64 m.code, .bool m.rap, .bool m.acc, .int .i64 m.again, .slice Ao m.opts.length co] 26)) (.cells #[.int .u16 3, .string o1] 42))
  have BO := Aside0.mk (blk_new (w.alloc (.cells #[.int .i64 m.ty, .int .u32 m.xid, .string m.cl, .string m.sv, .slice Ai m.ias.length ci, .int .i64 m.code, .bool m.rap, .bool m.acc, .int .i64 m.again, .slice Ao m.opts.length co] 26)) (.cells #[.int .u16 3, .string o1] 42))
  have HB := Aside0.mk (below_alloc (below_alloc (Below.refl _ w) (.cells #[.int .i64 m.ty, .int .u32 m.xid, .string m.cl, .string m.sv, .slice Ai m.ias.length ci, .int .i64 m.code, .bool m.rap, .bool m.acc, .int .i64 m.again, .slice Ao m.opts.length co] 26)) (.cells #[.int .u16 3, .string o1] 42))
  go_enter Try.func7, Try.ntmps7
  go_upto_region 1 with fail
  (try simp only [World.size_alloc] at BO)
  generalize World.alloc (World.alloc w _) _ = W0 at BM BO HB ⊢
  obtain ⟨gm, hgm⟩ : ∃ gm, gm = w.heap.size := ⟨_, rfl⟩
  obtain ⟨go_, hgo⟩ : ∃ go_, go_ = w.heap.size + 1 := ⟨_, rfl⟩
  rw [← hgo] at BO
  rw [← hgm] at BM
  rw [← hgo]
  rw [show (Value.pointer (some ⟨w.heap.size, 0, none⟩)) = .pointer (some ⟨gm, 0, none⟩) by rw [hgm]]
  clear hgm hgo
  go_upto_region 4 with (first | (go_at_call 9; refine (tenancylaw16_awake.calls 30 true _ HAW.out).mono ?_; rintro e wb ⟨rfl, hb⟩; have BMb := Aside0.mk (blk_below BM.out hb); have BOb := Aside0.mk (blk_below BO.out hb); have HBb := Aside0.mk (below_step HB.out hb); clear hb) | ((with_reducible refine gate_dst (N := 17) rfl ?_); (try (refine gate_guard (by rfl) ?_; dsimp only)); refine XBox.loadL_ 17 rfl rfl 26 rfl gm rfl _ BMb.out hu26 rfl hi26 ?_; simp only [Act.put, List.setIfInBounds_toArray, List.set_cons_zero, List.set_cons_succ]) | (go_at_call 13; refine (wire6_Encode.calls k m.ty m.xid m.cl m.sv Ai ci m.ias m.code m.rap m.acc m.again Ao co m.opts es 0 _ (Kd.C_below HAI.out HBb.out) HCI.out (Kd.C_below HAO.out HBb.out) HCO.out HEN.out).mono ?_; rintro e wc ⟨rfl, hb⟩; have BMc := Aside0.mk (blk_below BMb.out hb); have BOc := Aside0.mk (blk_below BOb.out hb); have HBc := Aside0.mk (below_step HBb.out hb); clear hb))
  clear BM BMb BO BOb HB HBb
  go_upto_region 5 with (first | ((with_reducible refine gate_dst (N := 22) rfl ?_); refine XBox.loadL_ 22 rfl rfl 42 rfl go_ rfl _ BOc.out hu42 rfl hi42 ?_; simp only [Act.put, List.setIfInBounds_toArray, List.set_cons_zero, List.set_cons_succ]) | (go_at_call 20; have BX := blk_new wc (.cells #[.int .u16 3, .string o1] 42); have BMd := Aside0.mk (blk_alloc BMc.out (.cells #[.int .u16 3, .string o1] 42)); have BOd := Aside0.mk (blk_alloc BOc.out (.cells #[.int .u16 3, .string o1] 42)); have HBd := Aside0.mk (below_alloc HBc.out (.cells #[.int .u16 3, .string o1] 42)); refine (opt6_Emit.calls _ 1 [(⟨3, o1⟩ : S42)] t 0 _ (optOne (o := ⟨3, o1⟩) BX) (Nat.le_refl 1) HEM.out).mono ?_; rintro e we ⟨rfl, hb⟩; have BMe := Aside0.mk (blk_below BMd.out hb); have BOe := Aside0.mk (blk_below BOd.out hb); have HBe := Aside0.mk (below_step HBd.out hb); clear hb BX BMd BOd HBd))
  clear BMc BOc HBc
  have hz0 : (es.size : Int) + (t.size : Int) ≤ 65507 := by have := HSZ.out.2; omega
  have hz1 : ¬ (65507 : Int) < (es.size : Int) + (t.size : Int) := by omega
  have hz2 : wrap64 ((es.size : Int) + (t.size : Int)) = (es.size : Int) + (t.size : Int) := Go.IntWalk.wrap64_in _ (by omega)
  go_upto_region 7 with fail
  clear hz0 hz1 hz2
  have h41 : (4 ≤ es.size) = True := eq_true HSZ.out.1
  have h42 : ((4 : Int) ≤ (es.size : Int)) = True := eq_true (by have := HSZ.out.1; omega)
  go_upto_region 8 with (go_at_call 19; refine (opt6_Parse.calls k (es.extract 4 es.size) l pe _ HP.out).mono ?_; rintro e wp ⟨v0, rfl, RL, hb⟩; obtain ⟨Al, cl, rfl⟩ := Kd.R_slice RL; clear RL; have BMp := Aside0.mk (blk_below BMe.out hb); have BOp := Aside0.mk (blk_below BOe.out hb); have HBp := Aside0.mk (below_step HBe.out hb); clear hb)
  clear h41 h42 BMe BOe HBe
  have hs : es.size + t.size ≤ 9223372036854775807 := by have := HSZ.out.2; omega
  go_upto_region 9 with (go_at_call 17; refine (wire6_Decode.calls k (es ++ t) md 6 _ HD.out).mono ?_; rintro e wg ⟨vi, vo, rfl, RI, RO, hb⟩; obtain ⟨Aj, cj, rfl, hl1, hk1⟩ := Kd.R_reads RI; obtain ⟨Ap, cp, rfl, hl2, hk2⟩ := Kd.R_reads RO; have HJ := Aside0.mk (And.intro hl1 hk1); have HQ := Aside0.mk (And.intro hl2 hk2); clear RI RO hl1 hk1 hl2 hk2; dsimp only [Ms.row]; have BMg := Aside0.mk (blk_below BMp.out hb); have BOg := Aside0.mk (blk_below BOp.out hb); have HBg := Aside0.mk (below_step HBp.out hb); clear hb)
  clear hs BMp BOp HBp
  have BN := Aside0.mk (blk_new wg (.cells #[.int .i64 md.ty, .int .u32 md.xid, .string md.cl, .string md.sv, .slice Aj md.ias.length cj, .int .i64 md.code, .bool md.rap, .bool md.acc, .int .i64 md.again, .slice Ap md.opts.length cp] 26))
  have BMh := Aside0.mk (blk_alloc BMg.out (.cells #[.int .i64 md.ty, .int .u32 md.xid, .string md.cl, .string md.sv, .slice Aj md.ias.length cj, .int .i64 md.code, .bool md.rap, .bool md.acc, .int .i64 md.again, .slice Ap md.opts.length cp] 26))
  have BOh := Aside0.mk (blk_alloc BOg.out (.cells #[.int .i64 md.ty, .int .u32 md.xid, .string md.cl, .string md.sv, .slice Aj md.ias.length cj, .int .i64 md.code, .bool md.rap, .bool md.acc, .int .i64 md.again, .slice Ap md.opts.length cp] 26))
  have HBh := Aside0.mk (below_alloc HBg.out (.cells #[.int .i64 md.ty, .int .u32 md.xid, .string md.cl, .string md.sv, .slice Aj md.ias.length cj, .int .i64 md.code, .bool md.rap, .bool md.acc, .int .i64 md.again, .slice Ap md.opts.length cp] 26))
  have HJh := Aside0.mk (Kd.C_below HJ.out.2 (below_alloc (Below.refl _ wg) (.cells #[.int .i64 md.ty, .int .u32 md.xid, .string md.cl, .string md.sv, .slice Aj md.ias.length cj, .int .i64 md.code, .bool md.rap, .bool md.acc, .int .i64 md.again, .slice Ap md.opts.length cp] 26)))
  have HQh := Aside0.mk (Kd.C_below HQ.out.2 (below_alloc (Below.refl _ wg) (.cells #[.int .i64 md.ty, .int .u32 md.xid, .string md.cl, .string md.sv, .slice Aj md.ias.length cj, .int .i64 md.code, .bool md.rap, .bool md.acc, .int .i64 md.again, .slice Ap md.opts.length cp] 26)))
  clear BMg BOg HBg HJ HQ
  generalize wg.alloc (.cells #[.int .i64 md.ty, .int .u32 md.xid, .string md.cl, .string md.sv, .slice Aj md.ias.length cj, .int .i64 md.code, .bool md.rap, .bool md.acc, .int .i64 md.again, .slice Ap md.opts.length cp] 26) = wh at BN BMh BOh HBh HJh HQh ⊢
  generalize wg.heap.size = gn at BN ⊢
  have hl1 := HL.out
  have hl2 : ¬ (128 : Int) ≤ (l.length : Int) := by omega
  have hl3 : (l.length : Int) < 128 := by omega
  have hm4 : wh.cell? ⟨gm, 4, none⟩ = some (.slice Ai m.ias.length ci) := (blk_cell BMh.out 4).trans rfl
  have ho0 : wh.cell? ⟨go_, 0, none⟩ = some (.int .u16 3) := (blk_cell BOh.out 0).trans rfl
  have hx : ¬ (m.ias.length : Int) < 8 := by have := HX.out; omega
  go_wp2
  go_ret
  exact ⟨rfl, by first | exact HBh.out | exact below_drew1 HBh.out | exact pw_below_drewN HBh.out _⟩
set_option maxHeartbeats 8000000 in
set_option maxRecDepth 100000 in
theorem w6twice_ia4t (k : Nat) (m : Ms) (Ai Ao : Option Addr) (ci co : Nat) (o1 : ByteArray) (w : World) (hai : Kd.C k51 w Ai m.ias.length m.ias) (hci : m.ias.length ≤ ci) (hao : Kd.C k42 w Ao m.opts.length m.opts) (hco : m.opts.length ≤ co)
    (haw : tenancylaw16_awake.f 30 = some true) (es t : ByteArray)  (hen : wire6_Encode.f k m.ty m.xid m.cl m.sv m.ias m.code m.rap m.acc m.again m.opts = some (es, 0)) (hem : opt6_Emit.f [(⟨4, o1⟩ : S42)] = some (t, 0)) (l : List S42) (pe : Int) (hp : opt6_Parse.f k (es.extract 4 es.size) = some (l, pe)) (md : Ms) (er : Int) (hd : wire6_Decode.f k (es ++ t) = some (md, er)) (hsz : 4 ≤ es.size ∧ es.size + t.size ≤ 65507) (hl : l.length < 128) (hx : m.ias.length < 8) :
    Calls Try.prog 7 #[.agg #[.int .i64 m.ty, .int .u32 m.xid, .string m.cl, .string m.sv, .slice Ai m.ias.length ci, .int .i64 m.code, .bool m.rap, .bool m.acc, .int .i64 m.again, .slice Ao m.opts.length co], .agg #[.int .u16 4, .string o1]] w fun e w' => e = .returned (.bool true) ∧ Below w.heap.size w w' := by
  have hu26 := Try.underlying26
  have hi26 : (Try.prog.info? 26).map (·.size) = some 10 := by kernel_rfl
  have HAI := Aside0.mk hai
  have HCI := Aside0.mk hci
  have HAO := Aside0.mk hao
  have HCO := Aside0.mk hco
  have HAW := Aside0.mk haw
  have HEN := Aside0.mk hen
  have HEM := Aside0.mk hem
  have HP := Aside0.mk hp
  have HD := Aside0.mk hd
  have HSZ := Aside0.mk hsz
  have HL := Aside0.mk hl
  have HX := Aside0.mk hx
  clear hai hci hao hco haw hen hem hp hd hsz hl hx
  have hu42 := Try.underlying42
  have hi42 : (Try.prog.info? 42).map (·.size) = some 2 := by kernel_rfl
  have BM := Aside0.mk (blk_alloc (blk_new w (.cells #[.int .i64 m.ty, .int .u32 m.xid, .string m.cl, .string m.sv, .slice Ai m.ias.length ci, .int .i64 m.code, .bool m.rap, .bool m.acc, .int .i64 m.again, .slice Ao m.opts.length co] 26)) (.cells #[.int .u16 4, .string o1] 42))
  have BO := Aside0.mk (blk_new (w.alloc (.cells #[.int .i64 m.ty, .int .u32 m.xid, .string m.cl, .string m.sv, .slice Ai m.ias.length ci, .int .i64 m.code, .bool m.rap, .bool m.acc, .int .i64 m.again, .slice Ao m.opts.length co] 26)) (.cells #[.int .u16 4, .string o1] 42))
  have HB := Aside0.mk (below_alloc (below_alloc (Below.refl _ w) (.cells #[.int .i64 m.ty, .int .u32 m.xid, .string m.cl, .string m.sv, .slice Ai m.ias.length ci, .int .i64 m.code, .bool m.rap, .bool m.acc, .int .i64 m.again, .slice Ao m.opts.length co] 26)) (.cells #[.int .u16 4, .string o1] 42))
  go_enter Try.func7, Try.ntmps7
  go_upto_region 1 with fail
  (try simp only [World.size_alloc] at BO)
  generalize World.alloc (World.alloc w _) _ = W0 at BM BO HB ⊢
  obtain ⟨gm, hgm⟩ : ∃ gm, gm = w.heap.size := ⟨_, rfl⟩
  obtain ⟨go_, hgo⟩ : ∃ go_, go_ = w.heap.size + 1 := ⟨_, rfl⟩
  rw [← hgo] at BO
  rw [← hgm] at BM
  rw [← hgo]
  rw [show (Value.pointer (some ⟨w.heap.size, 0, none⟩)) = .pointer (some ⟨gm, 0, none⟩) by rw [hgm]]
  clear hgm hgo
  go_upto_region 4 with (first | (go_at_call 9; refine (tenancylaw16_awake.calls 30 true _ HAW.out).mono ?_; rintro e wb ⟨rfl, hb⟩; have BMb := Aside0.mk (blk_below BM.out hb); have BOb := Aside0.mk (blk_below BO.out hb); have HBb := Aside0.mk (below_step HB.out hb); clear hb) | ((with_reducible refine gate_dst (N := 17) rfl ?_); (try (refine gate_guard (by rfl) ?_; dsimp only)); refine XBox.loadL_ 17 rfl rfl 26 rfl gm rfl _ BMb.out hu26 rfl hi26 ?_; simp only [Act.put, List.setIfInBounds_toArray, List.set_cons_zero, List.set_cons_succ]) | (go_at_call 13; refine (wire6_Encode.calls k m.ty m.xid m.cl m.sv Ai ci m.ias m.code m.rap m.acc m.again Ao co m.opts es 0 _ (Kd.C_below HAI.out HBb.out) HCI.out (Kd.C_below HAO.out HBb.out) HCO.out HEN.out).mono ?_; rintro e wc ⟨rfl, hb⟩; have BMc := Aside0.mk (blk_below BMb.out hb); have BOc := Aside0.mk (blk_below BOb.out hb); have HBc := Aside0.mk (below_step HBb.out hb); clear hb))
  clear BM BMb BO BOb HB HBb
  go_upto_region 5 with (first | ((with_reducible refine gate_dst (N := 22) rfl ?_); refine XBox.loadL_ 22 rfl rfl 42 rfl go_ rfl _ BOc.out hu42 rfl hi42 ?_; simp only [Act.put, List.setIfInBounds_toArray, List.set_cons_zero, List.set_cons_succ]) | (go_at_call 20; have BX := blk_new wc (.cells #[.int .u16 4, .string o1] 42); have BMd := Aside0.mk (blk_alloc BMc.out (.cells #[.int .u16 4, .string o1] 42)); have BOd := Aside0.mk (blk_alloc BOc.out (.cells #[.int .u16 4, .string o1] 42)); have HBd := Aside0.mk (below_alloc HBc.out (.cells #[.int .u16 4, .string o1] 42)); refine (opt6_Emit.calls _ 1 [(⟨4, o1⟩ : S42)] t 0 _ (optOne (o := ⟨4, o1⟩) BX) (Nat.le_refl 1) HEM.out).mono ?_; rintro e we ⟨rfl, hb⟩; have BMe := Aside0.mk (blk_below BMd.out hb); have BOe := Aside0.mk (blk_below BOd.out hb); have HBe := Aside0.mk (below_step HBd.out hb); clear hb BX BMd BOd HBd))
  clear BMc BOc HBc
  have hz0 : (es.size : Int) + (t.size : Int) ≤ 65507 := by have := HSZ.out.2; omega
  have hz1 : ¬ (65507 : Int) < (es.size : Int) + (t.size : Int) := by omega
  have hz2 : wrap64 ((es.size : Int) + (t.size : Int)) = (es.size : Int) + (t.size : Int) := Go.IntWalk.wrap64_in _ (by omega)
  go_upto_region 7 with fail
  clear hz0 hz1 hz2
  have h41 : (4 ≤ es.size) = True := eq_true HSZ.out.1
  have h42 : ((4 : Int) ≤ (es.size : Int)) = True := eq_true (by have := HSZ.out.1; omega)
  go_upto_region 8 with (go_at_call 19; refine (opt6_Parse.calls k (es.extract 4 es.size) l pe _ HP.out).mono ?_; rintro e wp ⟨v0, rfl, RL, hb⟩; obtain ⟨Al, cl, rfl⟩ := Kd.R_slice RL; clear RL; have BMp := Aside0.mk (blk_below BMe.out hb); have BOp := Aside0.mk (blk_below BOe.out hb); have HBp := Aside0.mk (below_step HBe.out hb); clear hb)
  clear h41 h42 BMe BOe HBe
  have hs : es.size + t.size ≤ 9223372036854775807 := by have := HSZ.out.2; omega
  go_upto_region 9 with (go_at_call 17; refine (wire6_Decode.calls k (es ++ t) md er _ HD.out).mono ?_; rintro e wg ⟨vi, vo, rfl, RI, RO, hb⟩; obtain ⟨Aj, cj, rfl, hl1, hk1⟩ := Kd.R_reads RI; obtain ⟨Ap, cp, rfl, hl2, hk2⟩ := Kd.R_reads RO; have HJ := Aside0.mk (And.intro hl1 hk1); have HQ := Aside0.mk (And.intro hl2 hk2); clear RI RO hl1 hk1 hl2 hk2; dsimp only [Ms.row]; have BMg := Aside0.mk (blk_below BMp.out hb); have BOg := Aside0.mk (blk_below BOp.out hb); have HBg := Aside0.mk (below_step HBp.out hb); clear hb)
  clear hs BMp BOp HBp
  have BN := Aside0.mk (blk_new wg (.cells #[.int .i64 md.ty, .int .u32 md.xid, .string md.cl, .string md.sv, .slice Aj md.ias.length cj, .int .i64 md.code, .bool md.rap, .bool md.acc, .int .i64 md.again, .slice Ap md.opts.length cp] 26))
  have BMh := Aside0.mk (blk_alloc BMg.out (.cells #[.int .i64 md.ty, .int .u32 md.xid, .string md.cl, .string md.sv, .slice Aj md.ias.length cj, .int .i64 md.code, .bool md.rap, .bool md.acc, .int .i64 md.again, .slice Ap md.opts.length cp] 26))
  have BOh := Aside0.mk (blk_alloc BOg.out (.cells #[.int .i64 md.ty, .int .u32 md.xid, .string md.cl, .string md.sv, .slice Aj md.ias.length cj, .int .i64 md.code, .bool md.rap, .bool md.acc, .int .i64 md.again, .slice Ap md.opts.length cp] 26))
  have HBh := Aside0.mk (below_alloc HBg.out (.cells #[.int .i64 md.ty, .int .u32 md.xid, .string md.cl, .string md.sv, .slice Aj md.ias.length cj, .int .i64 md.code, .bool md.rap, .bool md.acc, .int .i64 md.again, .slice Ap md.opts.length cp] 26))
  have HJh := Aside0.mk (Kd.C_below HJ.out.2 (below_alloc (Below.refl _ wg) (.cells #[.int .i64 md.ty, .int .u32 md.xid, .string md.cl, .string md.sv, .slice Aj md.ias.length cj, .int .i64 md.code, .bool md.rap, .bool md.acc, .int .i64 md.again, .slice Ap md.opts.length cp] 26)))
  have HQh := Aside0.mk (Kd.C_below HQ.out.2 (below_alloc (Below.refl _ wg) (.cells #[.int .i64 md.ty, .int .u32 md.xid, .string md.cl, .string md.sv, .slice Aj md.ias.length cj, .int .i64 md.code, .bool md.rap, .bool md.acc, .int .i64 md.again, .slice Ap md.opts.length cp] 26)))
  clear BMg BOg HBg HJ HQ
  generalize wg.alloc (.cells #[.int .i64 md.ty, .int .u32 md.xid, .string md.cl, .string md.sv, .slice Aj md.ias.length cj, .int .i64 md.code, .bool md.rap, .bool md.acc, .int .i64 md.again, .slice Ap md.opts.length cp] 26) = wh at BN BMh BOh HBh HJh HQh ⊢
  generalize wg.heap.size = gn at BN ⊢
  have hl1 := HL.out
  have hl2 : ¬ (128 : Int) ≤ (l.length : Int) := by omega
  have hl3 : (l.length : Int) < 128 := by omega
  have hm4 : wh.cell? ⟨gm, 4, none⟩ = some (.slice Ai m.ias.length ci) := (blk_cell BMh.out 4).trans rfl
  have ho0 : wh.cell? ⟨go_, 0, none⟩ = some (.int .u16 4) := (blk_cell BOh.out 0).trans rfl
  have hx : (m.ias.length : Int) < 8 := by have := HX.out; omega
  go_wp2
  go_ret
  exact ⟨rfl, by first | exact HBh.out | exact below_drew1 HBh.out | exact pw_below_drewN HBh.out _⟩
set_option maxHeartbeats 8000000 in
set_option maxRecDepth 100000 in
theorem w6twice_ia4f (k : Nat) (m : Ms) (Ai Ao : Option Addr) (ci co : Nat) (o1 : ByteArray) (w : World) (hai : Kd.C k51 w Ai m.ias.length m.ias) (hci : m.ias.length ≤ ci) (hao : Kd.C k42 w Ao m.opts.length m.opts) (hco : m.opts.length ≤ co)
    (haw : tenancylaw16_awake.f 30 = some true) (es t : ByteArray)  (hen : wire6_Encode.f k m.ty m.xid m.cl m.sv m.ias m.code m.rap m.acc m.again m.opts = some (es, 0)) (hem : opt6_Emit.f [(⟨4, o1⟩ : S42)] = some (t, 0)) (l : List S42) (pe : Int) (hp : opt6_Parse.f k (es.extract 4 es.size) = some (l, pe)) (md : Ms) (hd : wire6_Decode.f k (es ++ t) = some (md, 6)) (hsz : 4 ≤ es.size ∧ es.size + t.size ≤ 65507) (hl : l.length < 128) (hx : 8 ≤ m.ias.length) :
    Calls Try.prog 7 #[.agg #[.int .i64 m.ty, .int .u32 m.xid, .string m.cl, .string m.sv, .slice Ai m.ias.length ci, .int .i64 m.code, .bool m.rap, .bool m.acc, .int .i64 m.again, .slice Ao m.opts.length co], .agg #[.int .u16 4, .string o1]] w fun e w' => e = .returned (.bool true) ∧ Below w.heap.size w w' := by
  have hu26 := Try.underlying26
  have hi26 : (Try.prog.info? 26).map (·.size) = some 10 := by kernel_rfl
  have HAI := Aside0.mk hai
  have HCI := Aside0.mk hci
  have HAO := Aside0.mk hao
  have HCO := Aside0.mk hco
  have HAW := Aside0.mk haw
  have HEN := Aside0.mk hen
  have HEM := Aside0.mk hem
  have HP := Aside0.mk hp
  have HD := Aside0.mk hd
  have HSZ := Aside0.mk hsz
  have HL := Aside0.mk hl
  have HX := Aside0.mk hx
  clear hai hci hao hco haw hen hem hp hd hsz hl hx
  have hu42 := Try.underlying42
  have hi42 : (Try.prog.info? 42).map (·.size) = some 2 := by kernel_rfl
  have BM := Aside0.mk (blk_alloc (blk_new w (.cells #[.int .i64 m.ty, .int .u32 m.xid, .string m.cl, .string m.sv, .slice Ai m.ias.length ci, .int .i64 m.code, .bool m.rap, .bool m.acc, .int .i64 m.again, .slice Ao m.opts.length co] 26)) (.cells #[.int .u16 4, .string o1] 42))
  have BO := Aside0.mk (blk_new (w.alloc (.cells #[.int .i64 m.ty, .int .u32 m.xid, .string m.cl, .string m.sv, .slice Ai m.ias.length ci, .int .i64 m.code, .bool m.rap, .bool m.acc, .int .i64 m.again, .slice Ao m.opts.length co] 26)) (.cells #[.int .u16 4, .string o1] 42))
  have HB := Aside0.mk (below_alloc (below_alloc (Below.refl _ w) (.cells #[.int .i64 m.ty, .int .u32 m.xid, .string m.cl, .string m.sv, .slice Ai m.ias.length ci, .int .i64 m.code, .bool m.rap, .bool m.acc, .int .i64 m.again, .slice Ao m.opts.length co] 26)) (.cells #[.int .u16 4, .string o1] 42))
  go_enter Try.func7, Try.ntmps7
  go_upto_region 1 with fail
  (try simp only [World.size_alloc] at BO)
  generalize World.alloc (World.alloc w _) _ = W0 at BM BO HB ⊢
  obtain ⟨gm, hgm⟩ : ∃ gm, gm = w.heap.size := ⟨_, rfl⟩
  obtain ⟨go_, hgo⟩ : ∃ go_, go_ = w.heap.size + 1 := ⟨_, rfl⟩
  rw [← hgo] at BO
  rw [← hgm] at BM
  rw [← hgo]
  rw [show (Value.pointer (some ⟨w.heap.size, 0, none⟩)) = .pointer (some ⟨gm, 0, none⟩) by rw [hgm]]
  clear hgm hgo
  go_upto_region 4 with (first | (go_at_call 9; refine (tenancylaw16_awake.calls 30 true _ HAW.out).mono ?_; rintro e wb ⟨rfl, hb⟩; have BMb := Aside0.mk (blk_below BM.out hb); have BOb := Aside0.mk (blk_below BO.out hb); have HBb := Aside0.mk (below_step HB.out hb); clear hb) | ((with_reducible refine gate_dst (N := 17) rfl ?_); (try (refine gate_guard (by rfl) ?_; dsimp only)); refine XBox.loadL_ 17 rfl rfl 26 rfl gm rfl _ BMb.out hu26 rfl hi26 ?_; simp only [Act.put, List.setIfInBounds_toArray, List.set_cons_zero, List.set_cons_succ]) | (go_at_call 13; refine (wire6_Encode.calls k m.ty m.xid m.cl m.sv Ai ci m.ias m.code m.rap m.acc m.again Ao co m.opts es 0 _ (Kd.C_below HAI.out HBb.out) HCI.out (Kd.C_below HAO.out HBb.out) HCO.out HEN.out).mono ?_; rintro e wc ⟨rfl, hb⟩; have BMc := Aside0.mk (blk_below BMb.out hb); have BOc := Aside0.mk (blk_below BOb.out hb); have HBc := Aside0.mk (below_step HBb.out hb); clear hb))
  clear BM BMb BO BOb HB HBb
  go_upto_region 5 with (first | ((with_reducible refine gate_dst (N := 22) rfl ?_); refine XBox.loadL_ 22 rfl rfl 42 rfl go_ rfl _ BOc.out hu42 rfl hi42 ?_; simp only [Act.put, List.setIfInBounds_toArray, List.set_cons_zero, List.set_cons_succ]) | (go_at_call 20; have BX := blk_new wc (.cells #[.int .u16 4, .string o1] 42); have BMd := Aside0.mk (blk_alloc BMc.out (.cells #[.int .u16 4, .string o1] 42)); have BOd := Aside0.mk (blk_alloc BOc.out (.cells #[.int .u16 4, .string o1] 42)); have HBd := Aside0.mk (below_alloc HBc.out (.cells #[.int .u16 4, .string o1] 42)); refine (opt6_Emit.calls _ 1 [(⟨4, o1⟩ : S42)] t 0 _ (optOne (o := ⟨4, o1⟩) BX) (Nat.le_refl 1) HEM.out).mono ?_; rintro e we ⟨rfl, hb⟩; have BMe := Aside0.mk (blk_below BMd.out hb); have BOe := Aside0.mk (blk_below BOd.out hb); have HBe := Aside0.mk (below_step HBd.out hb); clear hb BX BMd BOd HBd))
  clear BMc BOc HBc
  have hz0 : (es.size : Int) + (t.size : Int) ≤ 65507 := by have := HSZ.out.2; omega
  have hz1 : ¬ (65507 : Int) < (es.size : Int) + (t.size : Int) := by omega
  have hz2 : wrap64 ((es.size : Int) + (t.size : Int)) = (es.size : Int) + (t.size : Int) := Go.IntWalk.wrap64_in _ (by omega)
  go_upto_region 7 with fail
  clear hz0 hz1 hz2
  have h41 : (4 ≤ es.size) = True := eq_true HSZ.out.1
  have h42 : ((4 : Int) ≤ (es.size : Int)) = True := eq_true (by have := HSZ.out.1; omega)
  go_upto_region 8 with (go_at_call 19; refine (opt6_Parse.calls k (es.extract 4 es.size) l pe _ HP.out).mono ?_; rintro e wp ⟨v0, rfl, RL, hb⟩; obtain ⟨Al, cl, rfl⟩ := Kd.R_slice RL; clear RL; have BMp := Aside0.mk (blk_below BMe.out hb); have BOp := Aside0.mk (blk_below BOe.out hb); have HBp := Aside0.mk (below_step HBe.out hb); clear hb)
  clear h41 h42 BMe BOe HBe
  have hs : es.size + t.size ≤ 9223372036854775807 := by have := HSZ.out.2; omega
  go_upto_region 9 with (go_at_call 17; refine (wire6_Decode.calls k (es ++ t) md 6 _ HD.out).mono ?_; rintro e wg ⟨vi, vo, rfl, RI, RO, hb⟩; obtain ⟨Aj, cj, rfl, hl1, hk1⟩ := Kd.R_reads RI; obtain ⟨Ap, cp, rfl, hl2, hk2⟩ := Kd.R_reads RO; have HJ := Aside0.mk (And.intro hl1 hk1); have HQ := Aside0.mk (And.intro hl2 hk2); clear RI RO hl1 hk1 hl2 hk2; dsimp only [Ms.row]; have BMg := Aside0.mk (blk_below BMp.out hb); have BOg := Aside0.mk (blk_below BOp.out hb); have HBg := Aside0.mk (below_step HBp.out hb); clear hb)
  clear hs BMp BOp HBp
  have BN := Aside0.mk (blk_new wg (.cells #[.int .i64 md.ty, .int .u32 md.xid, .string md.cl, .string md.sv, .slice Aj md.ias.length cj, .int .i64 md.code, .bool md.rap, .bool md.acc, .int .i64 md.again, .slice Ap md.opts.length cp] 26))
  have BMh := Aside0.mk (blk_alloc BMg.out (.cells #[.int .i64 md.ty, .int .u32 md.xid, .string md.cl, .string md.sv, .slice Aj md.ias.length cj, .int .i64 md.code, .bool md.rap, .bool md.acc, .int .i64 md.again, .slice Ap md.opts.length cp] 26))
  have BOh := Aside0.mk (blk_alloc BOg.out (.cells #[.int .i64 md.ty, .int .u32 md.xid, .string md.cl, .string md.sv, .slice Aj md.ias.length cj, .int .i64 md.code, .bool md.rap, .bool md.acc, .int .i64 md.again, .slice Ap md.opts.length cp] 26))
  have HBh := Aside0.mk (below_alloc HBg.out (.cells #[.int .i64 md.ty, .int .u32 md.xid, .string md.cl, .string md.sv, .slice Aj md.ias.length cj, .int .i64 md.code, .bool md.rap, .bool md.acc, .int .i64 md.again, .slice Ap md.opts.length cp] 26))
  have HJh := Aside0.mk (Kd.C_below HJ.out.2 (below_alloc (Below.refl _ wg) (.cells #[.int .i64 md.ty, .int .u32 md.xid, .string md.cl, .string md.sv, .slice Aj md.ias.length cj, .int .i64 md.code, .bool md.rap, .bool md.acc, .int .i64 md.again, .slice Ap md.opts.length cp] 26)))
  have HQh := Aside0.mk (Kd.C_below HQ.out.2 (below_alloc (Below.refl _ wg) (.cells #[.int .i64 md.ty, .int .u32 md.xid, .string md.cl, .string md.sv, .slice Aj md.ias.length cj, .int .i64 md.code, .bool md.rap, .bool md.acc, .int .i64 md.again, .slice Ap md.opts.length cp] 26)))
  clear BMg BOg HBg HJ HQ
  generalize wg.alloc (.cells #[.int .i64 md.ty, .int .u32 md.xid, .string md.cl, .string md.sv, .slice Aj md.ias.length cj, .int .i64 md.code, .bool md.rap, .bool md.acc, .int .i64 md.again, .slice Ap md.opts.length cp] 26) = wh at BN BMh BOh HBh HJh HQh ⊢
  generalize wg.heap.size = gn at BN ⊢
  have hl1 := HL.out
  have hl2 : ¬ (128 : Int) ≤ (l.length : Int) := by omega
  have hl3 : (l.length : Int) < 128 := by omega
  have hm4 : wh.cell? ⟨gm, 4, none⟩ = some (.slice Ai m.ias.length ci) := (blk_cell BMh.out 4).trans rfl
  have ho0 : wh.cell? ⟨go_, 0, none⟩ = some (.int .u16 4) := (blk_cell BOh.out 0).trans rfl
  have hx : ¬ (m.ias.length : Int) < 8 := by have := HX.out; omega
  go_wp2
  go_ret
  exact ⟨rfl, by first | exact HBh.out | exact below_drew1 HBh.out | exact pw_below_drewN HBh.out _⟩
set_option maxHeartbeats 8000000 in
set_option maxRecDepth 100000 in
theorem w6twice_ia25t (k : Nat) (m : Ms) (Ai Ao : Option Addr) (ci co : Nat) (o1 : ByteArray) (w : World) (hai : Kd.C k51 w Ai m.ias.length m.ias) (hci : m.ias.length ≤ ci) (hao : Kd.C k42 w Ao m.opts.length m.opts) (hco : m.opts.length ≤ co)
    (haw : tenancylaw16_awake.f 30 = some true) (es t : ByteArray)  (hen : wire6_Encode.f k m.ty m.xid m.cl m.sv m.ias m.code m.rap m.acc m.again m.opts = some (es, 0)) (hem : opt6_Emit.f [(⟨25, o1⟩ : S42)] = some (t, 0)) (l : List S42) (pe : Int) (hp : opt6_Parse.f k (es.extract 4 es.size) = some (l, pe)) (md : Ms) (er : Int) (hd : wire6_Decode.f k (es ++ t) = some (md, er)) (hsz : 4 ≤ es.size ∧ es.size + t.size ≤ 65507) (hl : l.length < 128) (hx : m.ias.length < 8) :
    Calls Try.prog 7 #[.agg #[.int .i64 m.ty, .int .u32 m.xid, .string m.cl, .string m.sv, .slice Ai m.ias.length ci, .int .i64 m.code, .bool m.rap, .bool m.acc, .int .i64 m.again, .slice Ao m.opts.length co], .agg #[.int .u16 25, .string o1]] w fun e w' => e = .returned (.bool true) ∧ Below w.heap.size w w' := by
  have hu26 := Try.underlying26
  have hi26 : (Try.prog.info? 26).map (·.size) = some 10 := by kernel_rfl
  have HAI := Aside0.mk hai
  have HCI := Aside0.mk hci
  have HAO := Aside0.mk hao
  have HCO := Aside0.mk hco
  have HAW := Aside0.mk haw
  have HEN := Aside0.mk hen
  have HEM := Aside0.mk hem
  have HP := Aside0.mk hp
  have HD := Aside0.mk hd
  have HSZ := Aside0.mk hsz
  have HL := Aside0.mk hl
  have HX := Aside0.mk hx
  clear hai hci hao hco haw hen hem hp hd hsz hl hx
  have hu42 := Try.underlying42
  have hi42 : (Try.prog.info? 42).map (·.size) = some 2 := by kernel_rfl
  have BM := Aside0.mk (blk_alloc (blk_new w (.cells #[.int .i64 m.ty, .int .u32 m.xid, .string m.cl, .string m.sv, .slice Ai m.ias.length ci, .int .i64 m.code, .bool m.rap, .bool m.acc, .int .i64 m.again, .slice Ao m.opts.length co] 26)) (.cells #[.int .u16 25, .string o1] 42))
  have BO := Aside0.mk (blk_new (w.alloc (.cells #[.int .i64 m.ty, .int .u32 m.xid, .string m.cl, .string m.sv, .slice Ai m.ias.length ci, .int .i64 m.code, .bool m.rap, .bool m.acc, .int .i64 m.again, .slice Ao m.opts.length co] 26)) (.cells #[.int .u16 25, .string o1] 42))
  have HB := Aside0.mk (below_alloc (below_alloc (Below.refl _ w) (.cells #[.int .i64 m.ty, .int .u32 m.xid, .string m.cl, .string m.sv, .slice Ai m.ias.length ci, .int .i64 m.code, .bool m.rap, .bool m.acc, .int .i64 m.again, .slice Ao m.opts.length co] 26)) (.cells #[.int .u16 25, .string o1] 42))
  go_enter Try.func7, Try.ntmps7
  go_upto_region 1 with fail
  (try simp only [World.size_alloc] at BO)
  generalize World.alloc (World.alloc w _) _ = W0 at BM BO HB ⊢
  obtain ⟨gm, hgm⟩ : ∃ gm, gm = w.heap.size := ⟨_, rfl⟩
  obtain ⟨go_, hgo⟩ : ∃ go_, go_ = w.heap.size + 1 := ⟨_, rfl⟩
  rw [← hgo] at BO
  rw [← hgm] at BM
  rw [← hgo]
  rw [show (Value.pointer (some ⟨w.heap.size, 0, none⟩)) = .pointer (some ⟨gm, 0, none⟩) by rw [hgm]]
  clear hgm hgo
  go_upto_region 4 with (first | (go_at_call 9; refine (tenancylaw16_awake.calls 30 true _ HAW.out).mono ?_; rintro e wb ⟨rfl, hb⟩; have BMb := Aside0.mk (blk_below BM.out hb); have BOb := Aside0.mk (blk_below BO.out hb); have HBb := Aside0.mk (below_step HB.out hb); clear hb) | ((with_reducible refine gate_dst (N := 17) rfl ?_); (try (refine gate_guard (by rfl) ?_; dsimp only)); refine XBox.loadL_ 17 rfl rfl 26 rfl gm rfl _ BMb.out hu26 rfl hi26 ?_; simp only [Act.put, List.setIfInBounds_toArray, List.set_cons_zero, List.set_cons_succ]) | (go_at_call 13; refine (wire6_Encode.calls k m.ty m.xid m.cl m.sv Ai ci m.ias m.code m.rap m.acc m.again Ao co m.opts es 0 _ (Kd.C_below HAI.out HBb.out) HCI.out (Kd.C_below HAO.out HBb.out) HCO.out HEN.out).mono ?_; rintro e wc ⟨rfl, hb⟩; have BMc := Aside0.mk (blk_below BMb.out hb); have BOc := Aside0.mk (blk_below BOb.out hb); have HBc := Aside0.mk (below_step HBb.out hb); clear hb))
  clear BM BMb BO BOb HB HBb
  go_upto_region 5 with (first | ((with_reducible refine gate_dst (N := 22) rfl ?_); refine XBox.loadL_ 22 rfl rfl 42 rfl go_ rfl _ BOc.out hu42 rfl hi42 ?_; simp only [Act.put, List.setIfInBounds_toArray, List.set_cons_zero, List.set_cons_succ]) | (go_at_call 20; have BX := blk_new wc (.cells #[.int .u16 25, .string o1] 42); have BMd := Aside0.mk (blk_alloc BMc.out (.cells #[.int .u16 25, .string o1] 42)); have BOd := Aside0.mk (blk_alloc BOc.out (.cells #[.int .u16 25, .string o1] 42)); have HBd := Aside0.mk (below_alloc HBc.out (.cells #[.int .u16 25, .string o1] 42)); refine (opt6_Emit.calls _ 1 [(⟨25, o1⟩ : S42)] t 0 _ (optOne (o := ⟨25, o1⟩) BX) (Nat.le_refl 1) HEM.out).mono ?_; rintro e we ⟨rfl, hb⟩; have BMe := Aside0.mk (blk_below BMd.out hb); have BOe := Aside0.mk (blk_below BOd.out hb); have HBe := Aside0.mk (below_step HBd.out hb); clear hb BX BMd BOd HBd))
  clear BMc BOc HBc
  have hz0 : (es.size : Int) + (t.size : Int) ≤ 65507 := by have := HSZ.out.2; omega
  have hz1 : ¬ (65507 : Int) < (es.size : Int) + (t.size : Int) := by omega
  have hz2 : wrap64 ((es.size : Int) + (t.size : Int)) = (es.size : Int) + (t.size : Int) := Go.IntWalk.wrap64_in _ (by omega)
  go_upto_region 7 with fail
  clear hz0 hz1 hz2
  have h41 : (4 ≤ es.size) = True := eq_true HSZ.out.1
  have h42 : ((4 : Int) ≤ (es.size : Int)) = True := eq_true (by have := HSZ.out.1; omega)
  go_upto_region 8 with (go_at_call 19; refine (opt6_Parse.calls k (es.extract 4 es.size) l pe _ HP.out).mono ?_; rintro e wp ⟨v0, rfl, RL, hb⟩; obtain ⟨Al, cl, rfl⟩ := Kd.R_slice RL; clear RL; have BMp := Aside0.mk (blk_below BMe.out hb); have BOp := Aside0.mk (blk_below BOe.out hb); have HBp := Aside0.mk (below_step HBe.out hb); clear hb)
  clear h41 h42 BMe BOe HBe
  have hs : es.size + t.size ≤ 9223372036854775807 := by have := HSZ.out.2; omega
  go_upto_region 9 with (go_at_call 17; refine (wire6_Decode.calls k (es ++ t) md er _ HD.out).mono ?_; rintro e wg ⟨vi, vo, rfl, RI, RO, hb⟩; obtain ⟨Aj, cj, rfl, hl1, hk1⟩ := Kd.R_reads RI; obtain ⟨Ap, cp, rfl, hl2, hk2⟩ := Kd.R_reads RO; have HJ := Aside0.mk (And.intro hl1 hk1); have HQ := Aside0.mk (And.intro hl2 hk2); clear RI RO hl1 hk1 hl2 hk2; dsimp only [Ms.row]; have BMg := Aside0.mk (blk_below BMp.out hb); have BOg := Aside0.mk (blk_below BOp.out hb); have HBg := Aside0.mk (below_step HBp.out hb); clear hb)
  clear hs BMp BOp HBp
  have BN := Aside0.mk (blk_new wg (.cells #[.int .i64 md.ty, .int .u32 md.xid, .string md.cl, .string md.sv, .slice Aj md.ias.length cj, .int .i64 md.code, .bool md.rap, .bool md.acc, .int .i64 md.again, .slice Ap md.opts.length cp] 26))
  have BMh := Aside0.mk (blk_alloc BMg.out (.cells #[.int .i64 md.ty, .int .u32 md.xid, .string md.cl, .string md.sv, .slice Aj md.ias.length cj, .int .i64 md.code, .bool md.rap, .bool md.acc, .int .i64 md.again, .slice Ap md.opts.length cp] 26))
  have BOh := Aside0.mk (blk_alloc BOg.out (.cells #[.int .i64 md.ty, .int .u32 md.xid, .string md.cl, .string md.sv, .slice Aj md.ias.length cj, .int .i64 md.code, .bool md.rap, .bool md.acc, .int .i64 md.again, .slice Ap md.opts.length cp] 26))
  have HBh := Aside0.mk (below_alloc HBg.out (.cells #[.int .i64 md.ty, .int .u32 md.xid, .string md.cl, .string md.sv, .slice Aj md.ias.length cj, .int .i64 md.code, .bool md.rap, .bool md.acc, .int .i64 md.again, .slice Ap md.opts.length cp] 26))
  have HJh := Aside0.mk (Kd.C_below HJ.out.2 (below_alloc (Below.refl _ wg) (.cells #[.int .i64 md.ty, .int .u32 md.xid, .string md.cl, .string md.sv, .slice Aj md.ias.length cj, .int .i64 md.code, .bool md.rap, .bool md.acc, .int .i64 md.again, .slice Ap md.opts.length cp] 26)))
  have HQh := Aside0.mk (Kd.C_below HQ.out.2 (below_alloc (Below.refl _ wg) (.cells #[.int .i64 md.ty, .int .u32 md.xid, .string md.cl, .string md.sv, .slice Aj md.ias.length cj, .int .i64 md.code, .bool md.rap, .bool md.acc, .int .i64 md.again, .slice Ap md.opts.length cp] 26)))
  clear BMg BOg HBg HJ HQ
  generalize wg.alloc (.cells #[.int .i64 md.ty, .int .u32 md.xid, .string md.cl, .string md.sv, .slice Aj md.ias.length cj, .int .i64 md.code, .bool md.rap, .bool md.acc, .int .i64 md.again, .slice Ap md.opts.length cp] 26) = wh at BN BMh BOh HBh HJh HQh ⊢
  generalize wg.heap.size = gn at BN ⊢
  have hl1 := HL.out
  have hl2 : ¬ (128 : Int) ≤ (l.length : Int) := by omega
  have hl3 : (l.length : Int) < 128 := by omega
  have hm4 : wh.cell? ⟨gm, 4, none⟩ = some (.slice Ai m.ias.length ci) := (blk_cell BMh.out 4).trans rfl
  have ho0 : wh.cell? ⟨go_, 0, none⟩ = some (.int .u16 25) := (blk_cell BOh.out 0).trans rfl
  have hx : (m.ias.length : Int) < 8 := by have := HX.out; omega
  go_wp2
  go_ret
  exact ⟨rfl, by first | exact HBh.out | exact below_drew1 HBh.out | exact pw_below_drewN HBh.out _⟩
set_option maxHeartbeats 8000000 in
set_option maxRecDepth 100000 in
theorem w6twice_ia25f (k : Nat) (m : Ms) (Ai Ao : Option Addr) (ci co : Nat) (o1 : ByteArray) (w : World) (hai : Kd.C k51 w Ai m.ias.length m.ias) (hci : m.ias.length ≤ ci) (hao : Kd.C k42 w Ao m.opts.length m.opts) (hco : m.opts.length ≤ co)
    (haw : tenancylaw16_awake.f 30 = some true) (es t : ByteArray)  (hen : wire6_Encode.f k m.ty m.xid m.cl m.sv m.ias m.code m.rap m.acc m.again m.opts = some (es, 0)) (hem : opt6_Emit.f [(⟨25, o1⟩ : S42)] = some (t, 0)) (l : List S42) (pe : Int) (hp : opt6_Parse.f k (es.extract 4 es.size) = some (l, pe)) (md : Ms) (hd : wire6_Decode.f k (es ++ t) = some (md, 6)) (hsz : 4 ≤ es.size ∧ es.size + t.size ≤ 65507) (hl : l.length < 128) (hx : 8 ≤ m.ias.length) :
    Calls Try.prog 7 #[.agg #[.int .i64 m.ty, .int .u32 m.xid, .string m.cl, .string m.sv, .slice Ai m.ias.length ci, .int .i64 m.code, .bool m.rap, .bool m.acc, .int .i64 m.again, .slice Ao m.opts.length co], .agg #[.int .u16 25, .string o1]] w fun e w' => e = .returned (.bool true) ∧ Below w.heap.size w w' := by
  have hu26 := Try.underlying26
  have hi26 : (Try.prog.info? 26).map (·.size) = some 10 := by kernel_rfl
  have HAI := Aside0.mk hai
  have HCI := Aside0.mk hci
  have HAO := Aside0.mk hao
  have HCO := Aside0.mk hco
  have HAW := Aside0.mk haw
  have HEN := Aside0.mk hen
  have HEM := Aside0.mk hem
  have HP := Aside0.mk hp
  have HD := Aside0.mk hd
  have HSZ := Aside0.mk hsz
  have HL := Aside0.mk hl
  have HX := Aside0.mk hx
  clear hai hci hao hco haw hen hem hp hd hsz hl hx
  have hu42 := Try.underlying42
  have hi42 : (Try.prog.info? 42).map (·.size) = some 2 := by kernel_rfl
  have BM := Aside0.mk (blk_alloc (blk_new w (.cells #[.int .i64 m.ty, .int .u32 m.xid, .string m.cl, .string m.sv, .slice Ai m.ias.length ci, .int .i64 m.code, .bool m.rap, .bool m.acc, .int .i64 m.again, .slice Ao m.opts.length co] 26)) (.cells #[.int .u16 25, .string o1] 42))
  have BO := Aside0.mk (blk_new (w.alloc (.cells #[.int .i64 m.ty, .int .u32 m.xid, .string m.cl, .string m.sv, .slice Ai m.ias.length ci, .int .i64 m.code, .bool m.rap, .bool m.acc, .int .i64 m.again, .slice Ao m.opts.length co] 26)) (.cells #[.int .u16 25, .string o1] 42))
  have HB := Aside0.mk (below_alloc (below_alloc (Below.refl _ w) (.cells #[.int .i64 m.ty, .int .u32 m.xid, .string m.cl, .string m.sv, .slice Ai m.ias.length ci, .int .i64 m.code, .bool m.rap, .bool m.acc, .int .i64 m.again, .slice Ao m.opts.length co] 26)) (.cells #[.int .u16 25, .string o1] 42))
  go_enter Try.func7, Try.ntmps7
  go_upto_region 1 with fail
  (try simp only [World.size_alloc] at BO)
  generalize World.alloc (World.alloc w _) _ = W0 at BM BO HB ⊢
  obtain ⟨gm, hgm⟩ : ∃ gm, gm = w.heap.size := ⟨_, rfl⟩
  obtain ⟨go_, hgo⟩ : ∃ go_, go_ = w.heap.size + 1 := ⟨_, rfl⟩
  rw [← hgo] at BO
  rw [← hgm] at BM
  rw [← hgo]
  rw [show (Value.pointer (some ⟨w.heap.size, 0, none⟩)) = .pointer (some ⟨gm, 0, none⟩) by rw [hgm]]
  clear hgm hgo
  go_upto_region 4 with (first | (go_at_call 9; refine (tenancylaw16_awake.calls 30 true _ HAW.out).mono ?_; rintro e wb ⟨rfl, hb⟩; have BMb := Aside0.mk (blk_below BM.out hb); have BOb := Aside0.mk (blk_below BO.out hb); have HBb := Aside0.mk (below_step HB.out hb); clear hb) | ((with_reducible refine gate_dst (N := 17) rfl ?_); (try (refine gate_guard (by rfl) ?_; dsimp only)); refine XBox.loadL_ 17 rfl rfl 26 rfl gm rfl _ BMb.out hu26 rfl hi26 ?_; simp only [Act.put, List.setIfInBounds_toArray, List.set_cons_zero, List.set_cons_succ]) | (go_at_call 13; refine (wire6_Encode.calls k m.ty m.xid m.cl m.sv Ai ci m.ias m.code m.rap m.acc m.again Ao co m.opts es 0 _ (Kd.C_below HAI.out HBb.out) HCI.out (Kd.C_below HAO.out HBb.out) HCO.out HEN.out).mono ?_; rintro e wc ⟨rfl, hb⟩; have BMc := Aside0.mk (blk_below BMb.out hb); have BOc := Aside0.mk (blk_below BOb.out hb); have HBc := Aside0.mk (below_step HBb.out hb); clear hb))
  clear BM BMb BO BOb HB HBb
  go_upto_region 5 with (first | ((with_reducible refine gate_dst (N := 22) rfl ?_); refine XBox.loadL_ 22 rfl rfl 42 rfl go_ rfl _ BOc.out hu42 rfl hi42 ?_; simp only [Act.put, List.setIfInBounds_toArray, List.set_cons_zero, List.set_cons_succ]) | (go_at_call 20; have BX := blk_new wc (.cells #[.int .u16 25, .string o1] 42); have BMd := Aside0.mk (blk_alloc BMc.out (.cells #[.int .u16 25, .string o1] 42)); have BOd := Aside0.mk (blk_alloc BOc.out (.cells #[.int .u16 25, .string o1] 42)); have HBd := Aside0.mk (below_alloc HBc.out (.cells #[.int .u16 25, .string o1] 42)); refine (opt6_Emit.calls _ 1 [(⟨25, o1⟩ : S42)] t 0 _ (optOne (o := ⟨25, o1⟩) BX) (Nat.le_refl 1) HEM.out).mono ?_; rintro e we ⟨rfl, hb⟩; have BMe := Aside0.mk (blk_below BMd.out hb); have BOe := Aside0.mk (blk_below BOd.out hb); have HBe := Aside0.mk (below_step HBd.out hb); clear hb BX BMd BOd HBd))
  clear BMc BOc HBc
  have hz0 : (es.size : Int) + (t.size : Int) ≤ 65507 := by have := HSZ.out.2; omega
  have hz1 : ¬ (65507 : Int) < (es.size : Int) + (t.size : Int) := by omega
  have hz2 : wrap64 ((es.size : Int) + (t.size : Int)) = (es.size : Int) + (t.size : Int) := Go.IntWalk.wrap64_in _ (by omega)
  go_upto_region 7 with fail
  clear hz0 hz1 hz2
  have h41 : (4 ≤ es.size) = True := eq_true HSZ.out.1
  have h42 : ((4 : Int) ≤ (es.size : Int)) = True := eq_true (by have := HSZ.out.1; omega)
  go_upto_region 8 with (go_at_call 19; refine (opt6_Parse.calls k (es.extract 4 es.size) l pe _ HP.out).mono ?_; rintro e wp ⟨v0, rfl, RL, hb⟩; obtain ⟨Al, cl, rfl⟩ := Kd.R_slice RL; clear RL; have BMp := Aside0.mk (blk_below BMe.out hb); have BOp := Aside0.mk (blk_below BOe.out hb); have HBp := Aside0.mk (below_step HBe.out hb); clear hb)
  clear h41 h42 BMe BOe HBe
  have hs : es.size + t.size ≤ 9223372036854775807 := by have := HSZ.out.2; omega
  go_upto_region 9 with (go_at_call 17; refine (wire6_Decode.calls k (es ++ t) md 6 _ HD.out).mono ?_; rintro e wg ⟨vi, vo, rfl, RI, RO, hb⟩; obtain ⟨Aj, cj, rfl, hl1, hk1⟩ := Kd.R_reads RI; obtain ⟨Ap, cp, rfl, hl2, hk2⟩ := Kd.R_reads RO; have HJ := Aside0.mk (And.intro hl1 hk1); have HQ := Aside0.mk (And.intro hl2 hk2); clear RI RO hl1 hk1 hl2 hk2; dsimp only [Ms.row]; have BMg := Aside0.mk (blk_below BMp.out hb); have BOg := Aside0.mk (blk_below BOp.out hb); have HBg := Aside0.mk (below_step HBp.out hb); clear hb)
  clear hs BMp BOp HBp
  have BN := Aside0.mk (blk_new wg (.cells #[.int .i64 md.ty, .int .u32 md.xid, .string md.cl, .string md.sv, .slice Aj md.ias.length cj, .int .i64 md.code, .bool md.rap, .bool md.acc, .int .i64 md.again, .slice Ap md.opts.length cp] 26))
  have BMh := Aside0.mk (blk_alloc BMg.out (.cells #[.int .i64 md.ty, .int .u32 md.xid, .string md.cl, .string md.sv, .slice Aj md.ias.length cj, .int .i64 md.code, .bool md.rap, .bool md.acc, .int .i64 md.again, .slice Ap md.opts.length cp] 26))
  have BOh := Aside0.mk (blk_alloc BOg.out (.cells #[.int .i64 md.ty, .int .u32 md.xid, .string md.cl, .string md.sv, .slice Aj md.ias.length cj, .int .i64 md.code, .bool md.rap, .bool md.acc, .int .i64 md.again, .slice Ap md.opts.length cp] 26))
  have HBh := Aside0.mk (below_alloc HBg.out (.cells #[.int .i64 md.ty, .int .u32 md.xid, .string md.cl, .string md.sv, .slice Aj md.ias.length cj, .int .i64 md.code, .bool md.rap, .bool md.acc, .int .i64 md.again, .slice Ap md.opts.length cp] 26))
  have HJh := Aside0.mk (Kd.C_below HJ.out.2 (below_alloc (Below.refl _ wg) (.cells #[.int .i64 md.ty, .int .u32 md.xid, .string md.cl, .string md.sv, .slice Aj md.ias.length cj, .int .i64 md.code, .bool md.rap, .bool md.acc, .int .i64 md.again, .slice Ap md.opts.length cp] 26)))
  have HQh := Aside0.mk (Kd.C_below HQ.out.2 (below_alloc (Below.refl _ wg) (.cells #[.int .i64 md.ty, .int .u32 md.xid, .string md.cl, .string md.sv, .slice Aj md.ias.length cj, .int .i64 md.code, .bool md.rap, .bool md.acc, .int .i64 md.again, .slice Ap md.opts.length cp] 26)))
  clear BMg BOg HBg HJ HQ
  generalize wg.alloc (.cells #[.int .i64 md.ty, .int .u32 md.xid, .string md.cl, .string md.sv, .slice Aj md.ias.length cj, .int .i64 md.code, .bool md.rap, .bool md.acc, .int .i64 md.again, .slice Ap md.opts.length cp] 26) = wh at BN BMh BOh HBh HJh HQh ⊢
  generalize wg.heap.size = gn at BN ⊢
  have hl1 := HL.out
  have hl2 : ¬ (128 : Int) ≤ (l.length : Int) := by omega
  have hl3 : (l.length : Int) < 128 := by omega
  have hm4 : wh.cell? ⟨gm, 4, none⟩ = some (.slice Ai m.ias.length ci) := (blk_cell BMh.out 4).trans rfl
  have ho0 : wh.cell? ⟨go_, 0, none⟩ = some (.int .u16 25) := (blk_cell BOh.out 0).trans rfl
  have hx : ¬ (m.ias.length : Int) < 8 := by have := HX.out; omega
  go_wp2
  go_ret
  exact ⟨rfl, by first | exact HBh.out | exact below_drew1 HBh.out | exact pw_below_drewN HBh.out _⟩
set_option maxHeartbeats 8000000 in
set_option maxRecDepth 100000 in
theorem w6twice_more (k : Nat) (m : Ms) (Ai Ao : Option Addr) (ci co : Nat) (o0 : Int) (o1 : ByteArray) (w : World) (hai : Kd.C k51 w Ai m.ias.length m.ias) (hci : m.ias.length ≤ ci) (hao : Kd.C k42 w Ao m.opts.length m.opts) (hco : m.opts.length ≤ co)
    (haw : tenancylaw16_awake.f 30 = some true) (es t : ByteArray)  (hen : wire6_Encode.f k m.ty m.xid m.cl m.sv m.ias m.code m.rap m.acc m.again m.opts = some (es, 0)) (hem : opt6_Emit.f [(⟨o0, o1⟩ : S42)] = some (t, 0)) (l : List S42) (pe : Int) (hp : opt6_Parse.f k (es.extract 4 es.size) = some (l, pe)) (hd : wire6_Decode.f k (es ++ t) = some (⟨m.ty, m.xid, m.cl, m.sv, m.ias, m.code, m.rap, m.acc, m.again, m.opts ++ [⟨o0, o1⟩]⟩, 0)) (hsz : 4 ≤ es.size ∧ es.size + t.size ≤ 65507) (hl : l.length < 128) (hx : ¬ o0 = 1 ∧ ¬ o0 = 2 ∧ ¬ o0 = 13 ∧ ¬ o0 = 14 ∧ ¬ o0 = 19 ∧ ¬ o0 = 20 ∧ ¬ o0 = 3 ∧ ¬ o0 = 4 ∧ ¬ o0 = 25) (hln : m.opts.length ≤ 1000000) :
    Calls Try.prog 7 #[.agg #[.int .i64 m.ty, .int .u32 m.xid, .string m.cl, .string m.sv, .slice Ai m.ias.length ci, .int .i64 m.code, .bool m.rap, .bool m.acc, .int .i64 m.again, .slice Ao m.opts.length co], .agg #[.int .u16 o0, .string o1]] w fun e w' => e = .returned (.bool true) ∧ Below w.heap.size w w' := by
  have hu26 := Try.underlying26
  have hi26 : (Try.prog.info? 26).map (·.size) = some 10 := by kernel_rfl
  have HAI := Aside0.mk hai
  have HCI := Aside0.mk hci
  have HAO := Aside0.mk hao
  have HCO := Aside0.mk hco
  have HAW := Aside0.mk haw
  have HEN := Aside0.mk hen
  have HEM := Aside0.mk hem
  have HP := Aside0.mk hp
  have HD := Aside0.mk hd
  have HSZ := Aside0.mk hsz
  have HL := Aside0.mk hl
  have HX := Aside0.mk hx
  have HLN := Aside0.mk hln
  clear hai hci hao hco haw hen hem hp hd hsz hl hx hln
  have hu42 := Try.underlying42
  have hi42 : (Try.prog.info? 42).map (·.size) = some 2 := by kernel_rfl
  have BM := Aside0.mk (blk_alloc (blk_new w (.cells #[.int .i64 m.ty, .int .u32 m.xid, .string m.cl, .string m.sv, .slice Ai m.ias.length ci, .int .i64 m.code, .bool m.rap, .bool m.acc, .int .i64 m.again, .slice Ao m.opts.length co] 26)) (.cells #[.int .u16 o0, .string o1] 42))
  have BO := Aside0.mk (blk_new (w.alloc (.cells #[.int .i64 m.ty, .int .u32 m.xid, .string m.cl, .string m.sv, .slice Ai m.ias.length ci, .int .i64 m.code, .bool m.rap, .bool m.acc, .int .i64 m.again, .slice Ao m.opts.length co] 26)) (.cells #[.int .u16 o0, .string o1] 42))
  have HB := Aside0.mk (below_alloc (below_alloc (Below.refl _ w) (.cells #[.int .i64 m.ty, .int .u32 m.xid, .string m.cl, .string m.sv, .slice Ai m.ias.length ci, .int .i64 m.code, .bool m.rap, .bool m.acc, .int .i64 m.again, .slice Ao m.opts.length co] 26)) (.cells #[.int .u16 o0, .string o1] 42))
  go_enter Try.func7, Try.ntmps7
  go_upto_region 1 with fail
  (try simp only [World.size_alloc] at BO)
  generalize World.alloc (World.alloc w _) _ = W0 at BM BO HB ⊢
  obtain ⟨gm, hgm⟩ : ∃ gm, gm = w.heap.size := ⟨_, rfl⟩
  obtain ⟨go_, hgo⟩ : ∃ go_, go_ = w.heap.size + 1 := ⟨_, rfl⟩
  rw [← hgo] at BO
  rw [← hgm] at BM
  rw [← hgo]
  rw [show (Value.pointer (some ⟨w.heap.size, 0, none⟩)) = .pointer (some ⟨gm, 0, none⟩) by rw [hgm]]
  clear hgm hgo
  go_upto_region 4 with (first | (go_at_call 9; refine (tenancylaw16_awake.calls 30 true _ HAW.out).mono ?_; rintro e wb ⟨rfl, hb⟩; have BMb := Aside0.mk (blk_below BM.out hb); have BOb := Aside0.mk (blk_below BO.out hb); have HBb := Aside0.mk (below_step HB.out hb); clear hb) | ((with_reducible refine gate_dst (N := 17) rfl ?_); (try (refine gate_guard (by rfl) ?_; dsimp only)); refine XBox.loadL_ 17 rfl rfl 26 rfl gm rfl _ BMb.out hu26 rfl hi26 ?_; simp only [Act.put, List.setIfInBounds_toArray, List.set_cons_zero, List.set_cons_succ]) | (go_at_call 13; refine (wire6_Encode.calls k m.ty m.xid m.cl m.sv Ai ci m.ias m.code m.rap m.acc m.again Ao co m.opts es 0 _ (Kd.C_below HAI.out HBb.out) HCI.out (Kd.C_below HAO.out HBb.out) HCO.out HEN.out).mono ?_; rintro e wc ⟨rfl, hb⟩; have BMc := Aside0.mk (blk_below BMb.out hb); have BOc := Aside0.mk (blk_below BOb.out hb); have HBc := Aside0.mk (below_step HBb.out hb); clear hb))
  clear BM BMb BO BOb HB HBb
  go_upto_region 5 with (first | ((with_reducible refine gate_dst (N := 22) rfl ?_); refine XBox.loadL_ 22 rfl rfl 42 rfl go_ rfl _ BOc.out hu42 rfl hi42 ?_; simp only [Act.put, List.setIfInBounds_toArray, List.set_cons_zero, List.set_cons_succ]) | (go_at_call 20; have BX := blk_new wc (.cells #[.int .u16 o0, .string o1] 42); have BMd := Aside0.mk (blk_alloc BMc.out (.cells #[.int .u16 o0, .string o1] 42)); have BOd := Aside0.mk (blk_alloc BOc.out (.cells #[.int .u16 o0, .string o1] 42)); have HBd := Aside0.mk (below_alloc HBc.out (.cells #[.int .u16 o0, .string o1] 42)); refine (opt6_Emit.calls _ 1 [(⟨o0, o1⟩ : S42)] t 0 _ (optOne (o := ⟨o0, o1⟩) BX) (Nat.le_refl 1) HEM.out).mono ?_; rintro e we ⟨rfl, hb⟩; have BMe := Aside0.mk (blk_below BMd.out hb); have BOe := Aside0.mk (blk_below BOd.out hb); have HBe := Aside0.mk (below_step HBd.out hb); clear hb BX BMd BOd HBd))
  clear BMc BOc HBc
  have hz0 : (es.size : Int) + (t.size : Int) ≤ 65507 := by have := HSZ.out.2; omega
  have hz1 : ¬ (65507 : Int) < (es.size : Int) + (t.size : Int) := by omega
  have hz2 : wrap64 ((es.size : Int) + (t.size : Int)) = (es.size : Int) + (t.size : Int) := Go.IntWalk.wrap64_in _ (by omega)
  go_upto_region 7 with fail
  clear hz0 hz1 hz2
  have h41 : (4 ≤ es.size) = True := eq_true HSZ.out.1
  have h42 : ((4 : Int) ≤ (es.size : Int)) = True := eq_true (by have := HSZ.out.1; omega)
  go_upto_region 8 with (go_at_call 19; refine (opt6_Parse.calls k (es.extract 4 es.size) l pe _ HP.out).mono ?_; rintro e wp ⟨v0, rfl, RL, hb⟩; obtain ⟨Al, cl, rfl⟩ := Kd.R_slice RL; clear RL; have BMp := Aside0.mk (blk_below BMe.out hb); have BOp := Aside0.mk (blk_below BOe.out hb); have HBp := Aside0.mk (below_step HBe.out hb); clear hb)
  clear h41 h42 BMe BOe HBe
  have hs : es.size + t.size ≤ 9223372036854775807 := by have := HSZ.out.2; omega
  go_upto_region 9 with (go_at_call 17; refine (wire6_Decode.calls k (es ++ t) ⟨m.ty, m.xid, m.cl, m.sv, m.ias, m.code, m.rap, m.acc, m.again, m.opts ++ [⟨o0, o1⟩]⟩ 0 _ HD.out).mono ?_; rintro e wg ⟨vi, vo, rfl, RI, RO, hb⟩; obtain ⟨Aj, cj, rfl, hl1, hk1⟩ := Kd.R_reads RI; obtain ⟨Ap, cp, rfl, hl2, hk2⟩ := Kd.R_reads RO; have HJ := Aside0.mk (And.intro hl1 hk1); have HQ := Aside0.mk (And.intro hl2 hk2); clear RI RO hl1 hk1 hl2 hk2; dsimp only [Ms.row]; have BMg := Aside0.mk (blk_below BMp.out hb); have BOg := Aside0.mk (blk_below BOp.out hb); have HBg := Aside0.mk (below_step HBp.out hb); clear hb)
  clear hs BMp BOp HBp
  have BN := Aside0.mk (blk_new wg (.cells #[.int .i64 m.ty, .int .u32 m.xid, .string m.cl, .string m.sv, .slice Aj m.ias.length cj, .int .i64 m.code, .bool m.rap, .bool m.acc, .int .i64 m.again, .slice Ap (m.opts.length + 1) cp] 26))
  have BMh := Aside0.mk (blk_alloc BMg.out (.cells #[.int .i64 m.ty, .int .u32 m.xid, .string m.cl, .string m.sv, .slice Aj m.ias.length cj, .int .i64 m.code, .bool m.rap, .bool m.acc, .int .i64 m.again, .slice Ap (m.opts.length + 1) cp] 26))
  have BOh := Aside0.mk (blk_alloc BOg.out (.cells #[.int .i64 m.ty, .int .u32 m.xid, .string m.cl, .string m.sv, .slice Aj m.ias.length cj, .int .i64 m.code, .bool m.rap, .bool m.acc, .int .i64 m.again, .slice Ap (m.opts.length + 1) cp] 26))
  have HBh := Aside0.mk (below_alloc HBg.out (.cells #[.int .i64 m.ty, .int .u32 m.xid, .string m.cl, .string m.sv, .slice Aj m.ias.length cj, .int .i64 m.code, .bool m.rap, .bool m.acc, .int .i64 m.again, .slice Ap (m.opts.length + 1) cp] 26))
  have HJh := Aside0.mk (Kd.C_below HJ.out.2 (below_alloc (Below.refl _ wg) (.cells #[.int .i64 m.ty, .int .u32 m.xid, .string m.cl, .string m.sv, .slice Aj m.ias.length cj, .int .i64 m.code, .bool m.rap, .bool m.acc, .int .i64 m.again, .slice Ap (m.opts.length + 1) cp] 26)))
  have HQh := Aside0.mk (Kd.C_below HQ.out.2 (below_alloc (Below.refl _ wg) (.cells #[.int .i64 m.ty, .int .u32 m.xid, .string m.cl, .string m.sv, .slice Aj m.ias.length cj, .int .i64 m.code, .bool m.rap, .bool m.acc, .int .i64 m.again, .slice Ap (m.opts.length + 1) cp] 26)))
  clear BMg BOg HBg HJ HQ
  generalize wg.alloc (.cells #[.int .i64 m.ty, .int .u32 m.xid, .string m.cl, .string m.sv, .slice Aj m.ias.length cj, .int .i64 m.code, .bool m.rap, .bool m.acc, .int .i64 m.again, .slice Ap (m.opts.length + 1) cp] 26) = wh at BN BMh BOh HBh HJh HQh ⊢
  generalize wg.heap.size = gn at BN ⊢
  have hl1 := HL.out
  have hl2 : ¬ (128 : Int) ≤ (l.length : Int) := by omega
  have hl3 : (l.length : Int) < 128 := by omega
  have ho0 : wh.cell? ⟨go_, 0, none⟩ = some (.int .u16 o0) := (blk_cell BOh.out 0).trans rfl
  go_upto_region 12 with fail
  have hn1 : ¬ o0 = 1 := HX.out.1
  have hn2 : ¬ o0 = 2 := HX.out.2.1
  have hn13 : ¬ o0 = 13 := HX.out.2.2.1
  have hn14 : ¬ o0 = 14 := HX.out.2.2.2.1
  have hn19 : ¬ o0 = 19 := HX.out.2.2.2.2.1
  have hn20 : ¬ o0 = 20 := HX.out.2.2.2.2.2.1
  have hn3 : ¬ o0 = 3 := HX.out.2.2.2.2.2.2.1
  have hn4 : ¬ o0 = 4 := HX.out.2.2.2.2.2.2.2.1
  have hn25 : ¬ o0 = 25 := HX.out.2.2.2.2.2.2.2.2
  go_upto_region 24 with fail
  clear hn1 hn2 hn13 hn14 hn19 hn20 hn3 hn4 hn25 hl1 hl2 hl3 ho0
  go_upto_region 25 with ((with_reducible refine gate_dst (N := 142) rfl ?_); (try (refine gate_guard (by rfl) ?_; dsimp only)); refine XBox.loadL_ 142 rfl rfl 26 rfl gm rfl _ BMh.out hu26 rfl hi26 ?_; simp only [Act.put, List.setIfInBounds_toArray, List.set_cons_zero, List.set_cons_succ])
  have BK := Aside0.mk (blk_new wh (.cells #[.int .i64 m.ty, .int .u32 m.xid, .string m.cl, .string m.sv, .slice Ai m.ias.length ci, .int .i64 m.code, .bool m.rap, .bool m.acc, .int .i64 m.again, .slice Ao m.opts.length co] 26))
  have HW := Aside0.mk (below_alloc (Below.refl _ wh) (.cells #[.int .i64 m.ty, .int .u32 m.xid, .string m.cl, .string m.sv, .slice Ai m.ias.length ci, .int .i64 m.code, .bool m.rap, .bool m.acc, .int .i64 m.again, .slice Ao m.opts.length co] 26))
  obtain ⟨gk, hgk⟩ : ∃ gk, gk = wh.heap.size := ⟨_, rfl⟩
  have GK := Aside0.mk hgk
  rw [← hgk] at BK
  rw [← hgk]
  have HWS : Aside0 (gk < (wh.alloc (.cells #[.int .i64 m.ty, .int .u32 m.xid, .string m.cl, .string m.sv, .slice Ai m.ias.length ci, .int .i64 m.code, .bool m.rap, .bool m.acc, .int .i64 m.again, .slice Ao m.opts.length co] 26)).heap.size) := ⟨blk_lt BK.out⟩
  clear hgk
  generalize wh.alloc (.cells #[.int .i64 m.ty, .int .u32 m.xid, .string m.cl, .string m.sv, .slice Ai m.ias.length ci, .int .i64 m.code, .bool m.rap, .bool m.acc, .int .i64 m.again, .slice Ao m.opts.length co] 26) = wi at BK HW HWS ⊢
  have hm9 : wi.cell? ⟨gm, 9, none⟩ = some (.slice Ao m.opts.length co) := (blk_cell (blk_below BMh.out HW.out) 9).trans rfl
  have HWR : Aside0 (wrap64 ((m.opts.length : Int) + 1) = (m.opts.length : Int) + 1) := ⟨Go.IntWalk.wrap64_in _ (by have := HLN.out; omega)⟩
  go_upto_region 26 with ((with_reducible refine gate_dst (N := 147) rfl ?_); refine XRun.R_make0 k42 (w0 := wh) gk 42 rfl rfl 24 (.const (.int .i64 0)) (.tmp 146) rfl (wrap64 ((m.opts.length : Int) + 1)) rfl rfl Try.underlying24 (.agg #[(.int .u16 0), (.string ⟨#[]⟩)]) 24 info42 rfl (by decide) (by omega) (⟨0, ⟨#[]⟩⟩ : S42) (ok := fun q => q ≠ gk) (okp := fun _ => False) (k42_mkM _ _ _ (⟨0, ⟨#[]⟩⟩ : S42)) (fun _ h => h.elim) (by have := HWS.out; omega) (by rw [HWR.out]; omega) (by rw [HWR.out]; have := HLN.out; omega) (by rw [GK.out]; exact HW.out) (by have := HWS.out; omega) ?_; intro v1 w1 ho hb hg hat; have BK1 := Aside0.mk (blk_grown BK.out hg (by simp)); have hsz1 := hg.size; obtain ⟨A1, c1, rfl⟩ := Kd.R_slice ho; have HR := Aside0.mk ho; have HW1 := Aside0.mk hb; have HS1 : Aside0 (gk < w1.heap.size) := ⟨by have := HWS.out; omega⟩; have hk9 : w1.cell? ⟨gk, 9, none⟩ = some (.slice Ao m.opts.length co) := (blk_cell BK1.out 9).trans rfl; have hf9 := blk_frozen BK1.out 9; clear ho hb hg hat hsz1)
  clear hk9 hf9 hm9
  have BK2 := Aside0.mk (blk_put BK1.out 9 (.slice A1 0 c1) (cs' := #[.int .i64 m.ty, .int .u32 m.xid, .string m.cl, .string m.sv, .slice Ai m.ias.length ci, .int .i64 m.code, .bool m.rap, .bool m.acc, .int .i64 m.again, .slice A1 0 c1]) rfl)
  have HR_ := Aside0.mk (Kd.R_far HR.out (p := ⟨gk, 9, none⟩) (fun q hq => hq) (.slice A1 0 c1))
  have HW_ := Aside0.mk (show Below gk wh (World.setCell _ ⟨gk, 9, none⟩ (.slice A1 0 c1)) from HW1.out.setCell (Nat.le_refl gk) _)
  have HS_ : Aside0 (gk < (World.setCell _ ⟨gk, 9, none⟩ (.slice A1 0 c1)).heap.size) := ⟨blk_lt BK2.out⟩
  clear BK BK1 HR HW1 HS1
  generalize World.setCell _ ⟨gk, 9, none⟩ (.slice A1 0 c1) = wj1 at BK2 HR_ HW_ HS_ ⊢
  have BK := BK2
  have HR := HR_
  have HW1 := HW_
  have HS1 := HS_
  clear BK2 HR_ HW_ HS_
  have hx9 : wj1.cell? ⟨gk, 9, none⟩ = some (.slice A1 0 c1) := (blk_cell BK.out 9).trans rfl
  have hm9 : wj1.cell? ⟨gm, 9, none⟩ = some (.slice Ao m.opts.length co) := (blk_cell (blk_below BMh.out (by rw [← GK.out]; exact HW1.out)) 9).trans rfl
  have hxf := blk_frozen BK.out 9
  go_upto_region 27 with ((with_reducible refine gate_builtin (b := .append) (xs := #[.tmp 150, .tmp 152]) rfl ?_); at_builtin; refine Kd.R_append_rows k42 (w0 := wh) gk rfl (.tmp 150) (.tmp 152) 24 42 (.agg #[(.int .u16 0), (.string ⟨#[]⟩)]) 24 rfl Try.underlying24 info42 rfl (by decide) (by omega) (.slice A1 0 c1) [] m.opts _ _ _ (fun q => q ≠ gk) (fun _ => False) rfl rfl HR.out (Kd.C_below (Kd.C_below HAO.out HBh.out) (by rw [← GK.out]; exact HW1.out)) (fun _ _ h => h) (fun _ h => h.elim) (fun q hq => by have := HS1.out; omega) HW1.out (by have := HS1.out; omega) (by have := HLN.out; simp only [List.length_nil]; omega) ?_; intro v1 w1 ho hb hg hat; have BK1 := Aside0.mk (blk_grown BK.out hg (fun e => HR.out.1 gk e.symm rfl)); have hsz1 := hg.size; rw [List.nil_append] at ho; obtain ⟨A2, c2, rfl⟩ := Kd.R_slice ho; have HR2 := Aside0.mk ho; have HW2 := Aside0.mk hb; have HS2 : Aside0 (gk < w1.heap.size) := ⟨by have := HS1.out; omega⟩; have hk9 : w1.cell? ⟨gk, 9, none⟩ = some (.slice A1 0 c1) := (blk_cell BK1.out 9).trans rfl; have hf9 := blk_frozen BK1.out 9; clear ho hb hg hat hsz1)
  clear hk9 hf9 hx9 hm9 hxf
  have BK2 := Aside0.mk (blk_put BK1.out 9 (.slice A2 m.opts.length c2) (cs' := #[.int .i64 m.ty, .int .u32 m.xid, .string m.cl, .string m.sv, .slice Ai m.ias.length ci, .int .i64 m.code, .bool m.rap, .bool m.acc, .int .i64 m.again, .slice A2 m.opts.length c2]) rfl)
  have HR_ := Aside0.mk (Kd.R_far HR2.out (p := ⟨gk, 9, none⟩) (fun q hq => hq) (.slice A2 m.opts.length c2))
  have HW_ := Aside0.mk (show Below gk wh (World.setCell _ ⟨gk, 9, none⟩ (.slice A2 m.opts.length c2)) from HW2.out.setCell (Nat.le_refl gk) _)
  have HS_ : Aside0 (gk < (World.setCell _ ⟨gk, 9, none⟩ (.slice A2 m.opts.length c2)).heap.size) := ⟨blk_lt BK2.out⟩
  clear BK BK1 HR2 HW2 HS2
  generalize World.setCell _ ⟨gk, 9, none⟩ (.slice A2 m.opts.length c2) = wj2 at BK2 HR_ HW_ HS_ ⊢
  have BK := BK2
  have HR2 := HR_
  have HW2 := HW_
  have HS2 := HS_
  clear BK2 HR_ HW_ HS_
  have hx9 : wj2.cell? ⟨gk, 9, none⟩ = some (.slice A2 m.opts.length c2) := (blk_cell BK.out 9).trans rfl
  have hm9 : wj2.cell? ⟨gm, 9, none⟩ = some (.slice Ao m.opts.length co) := (blk_cell (blk_below BMh.out (by rw [← GK.out]; exact HW2.out)) 9).trans rfl
  have hxf := blk_frozen BK.out 9
  have ho0 : wj2.cell? ⟨go_, 0, none⟩ = some (.int .u16 o0) := (blk_cell (blk_below BOh.out (by rw [← GK.out]; exact HW2.out)) 0).trans rfl
  have ho1 : wj2.cell? ⟨go_, 1, none⟩ = some (.string o1) := (blk_cell (blk_below BOh.out (by rw [← GK.out]; exact HW2.out)) 1).trans rfl
  go_upto_region 28 with (first | ((with_reducible refine gate_builtin (b := .append) (xs := #[.tmp 156, .tmp 158]) rfl ?_); at_builtin; refine Kd.R_append k42 (w0 := wh) gk rfl (.tmp 156) (.tmp 158) 24 42 (.agg #[(.int .u16 0), (.string ⟨#[]⟩)]) 24 rfl Try.underlying24 info42 rfl (by decide) (by omega) (.slice A2 m.opts.length c2) m.opts (⟨o0, o1⟩ : S42) [.int .u16 o0, .string o1] (fun q => q ≠ gk) (fun _ => False) rfl rfl (k42_mkM _ _ _ (⟨o0, o1⟩ : S42)) (fun _ h => h.elim) (fun q hq => by have := HS2.out; omega) HR2.out HW2.out (by have := HS2.out; omega) (by have := HLN.out; omega) ?_; intro v1 w1 ho hb hg hat; have BK1 := Aside0.mk (blk_grown BK.out hg (fun e => HR2.out.1 gk e.symm rfl)); have hsz1 := hg.size; obtain ⟨A3, c3, rfl⟩ := Kd.R_slice ho; rw [show (m.opts ++ [(⟨o0, o1⟩ : S42)]).length = m.opts.length + 1 by simp] at ho ⊢; have HR3 := Aside0.mk ho; have HW3 := Aside0.mk hb; have HS3 : Aside0 (gk < w1.heap.size) := ⟨by have := HS2.out; omega⟩; have hk9 : w1.cell? ⟨gk, 9, none⟩ = some (.slice A2 m.opts.length c2) := (blk_cell BK1.out 9).trans rfl; have hf9 := blk_frozen BK1.out 9; clear ho hb hg hat hsz1))
  clear ho0 ho1
  clear hk9 hf9 hx9 hm9 hxf
  have BK2 := Aside0.mk (blk_put BK1.out 9 (.slice A3 (m.opts.length + 1) c3) (cs' := #[.int .i64 m.ty, .int .u32 m.xid, .string m.cl, .string m.sv, .slice Ai m.ias.length ci, .int .i64 m.code, .bool m.rap, .bool m.acc, .int .i64 m.again, .slice A3 (m.opts.length + 1) c3]) rfl)
  have HR_ := Aside0.mk (Kd.R_far HR3.out (p := ⟨gk, 9, none⟩) (fun q hq => hq) (.slice A3 (m.opts.length + 1) c3))
  have HW_ := Aside0.mk (show Below gk wh (World.setCell _ ⟨gk, 9, none⟩ (.slice A3 (m.opts.length + 1) c3)) from HW3.out.setCell (Nat.le_refl gk) _)
  have HS_ : Aside0 (gk < (World.setCell _ ⟨gk, 9, none⟩ (.slice A3 (m.opts.length + 1) c3)).heap.size) := ⟨blk_lt BK2.out⟩
  clear BK BK1 HR3 HW3 HS3
  generalize World.setCell _ ⟨gk, 9, none⟩ (.slice A3 (m.opts.length + 1) c3) = wj3 at BK2 HR_ HW_ HS_ ⊢
  have BK := BK2
  have HR3 := HR_
  have HW3 := HW_
  have HS3 := HS_
  clear BK2 HR_ HW_ HS_
  have hx9 : wj3.cell? ⟨gk, 9, none⟩ = some (.slice A3 (m.opts.length + 1) c3) := (blk_cell BK.out 9).trans rfl
  have hm9 : wj3.cell? ⟨gm, 9, none⟩ = some (.slice Ao m.opts.length co) := (blk_cell (blk_below BMh.out (by rw [← GK.out]; exact HW3.out)) 9).trans rfl
  have hxf := blk_frozen BK.out 9
  have BNf := Aside0.mk (blk_below BN.out (by rw [← GK.out]; exact HW3.out))
  obtain ⟨A4, c4, hv4, _, hC4⟩ := Kd.R_reads HR3.out
  injection hv4 with e1 e2 e3
  subst e1 e3
  rw [show (m.opts ++ [(⟨o0, o1⟩ : S42)]).length = m.opts.length + 1 by simp] at hC4
  have HC4 := Aside0.mk hC4
  clear hC4 e2
  have HBf := Aside0.mk (below_step HBh.out (by rw [← GK.out]; exact HW3.out))
  have HJf := Aside0.mk (Kd.C_below HJh.out (by rw [← GK.out]; exact HW3.out))
  have HQf := Aside0.mk (Kd.C_below HQh.out (by rw [← GK.out]; exact HW3.out))
  have hq := HQf.out
  rw [show (m.opts ++ [(⟨o0, o1⟩ : S42)]).length = m.opts.length + 1 by simp] at hq
  have hsame := tenancylaw16_same.calls ⟨m.ty, m.xid, m.cl, m.sv, m.ias, m.code, m.rap, m.acc, m.again, m.opts ++ [⟨o0, o1⟩]⟩ Aj Ap Ai A3 cj cp ci c3 _ HJf.out (by simpa using hq) (Kd.C_below HAI.out HBf.out) (by simpa using HC4.out)
  simp only [Ms.row, show (m.opts ++ [(⟨o0, o1⟩ : S42)]).length = m.opts.length + 1 by simp] at hsame
  have HSAME := Aside0.mk hsame
  clear hsame hq
  go_wp2_with (first | ((with_reducible refine gate_dst (N := 164) rfl ?_); (try (refine gate_guard (by rfl) ?_; dsimp only)); refine XBox.loadL_ 164 rfl rfl 26 rfl gn rfl _ BNf.out hu26 rfl hi26 ?_; simp only [Act.put, List.setIfInBounds_toArray, List.set_cons_zero, List.set_cons_succ]) | ((with_reducible refine gate_dst (N := 165) rfl ?_); (try (refine gate_guard (by rfl) ?_; dsimp only)); refine XBox.loadL_ 165 rfl rfl 26 rfl gk rfl _ BK.out hu26 rfl hi26 ?_; simp only [Act.put, List.setIfInBounds_toArray, List.set_cons_zero, List.set_cons_succ]) | (go_at_call 10; refine (HSAME.out).mono ?_; rintro e wz ⟨rfl, hb⟩; have HBz := Aside0.mk (below_step HBf.out hb); clear hb))
  go_ret
  exact ⟨rfl, HBz.out⟩

end Go.Proofs.Ythadapbekmmgpaa.X
