/- no condition. -/
import Derived.Test.YthadapbekmmgpaaSX0
import Derived.Test.YthadapbekmmgpaaSX4
import Derived.Test.YthadapbekmmgpaaSXCv
import Derived.Test.YthadapbekmmgpaaSXE3
import Derived.Test.YthadapbekmmgpaaSXE4
import Derived.Test.YthadapbekmmgpaaSXE7
import Derived.Test.YthadapbekmmgpaaSXE8
import Derived.Test.YthadapbekmmgpaaSXIn
import Derived.Test.YthadapbekmmgpaaSXOrow
import Derived.Test.YthadapbekmmgpaaSXReg
import Derived.Test.YthadapbekmmgpaaSXRegF
import Derived.Test.YthadapbekmmgpaaSXRegG
import Derived.Test.YthadapbekmmgpaaSXRegP
import Derived.Outline
import Derived.Lib.Hide
import Derived.Laws.IdiomCopy
import Derived.Lib.SliceRun
import Derived.WalkSpells
namespace Go.Proofs.Ythadapbekmmgpaa.X
open Go.RowKit Go.Proofs.YthadapbekmmgpaaW.PrintWords Go.Proofs.YthadapbekmmgpaaW.PrintLast Go.Proofs.YthadapbekmmgpaaW.PrintMore
set_option linter.unusedVariables false
set_option linter.unusedSimpArgs false
def w6short12V (gn : Nat) (m : Ms) (A Ai Ao : Option Addr) (c ci co : Nat) : Nat → Value → World → Prop
  | 0, v, _ => v = .int .i64 0
  | 1, v, _ => v = .bool true
  | 2, v, _ => v = .bool true
  | 3, v, _ => v = .slice A (m.opts.length + m.ias.length + w6fields m) c
  | 4, v, _ => v = .int .i64 ((m.opts.length + m.ias.length + w6fields m : Nat) : Nat)
  | 5, v, _ => v = .pointer (some ⟨gn, 9, none⟩)
  | 6, v, _ => v = .slice Ao m.opts.length co
  | 7, v, _ => v = .int .i64 (m.opts.length : Nat)
  | 8, v, _ => v = .pointer (some ⟨gn, 4, none⟩)
  | 9, v, _ => v = .slice Ai m.ias.length ci
  | 10, v, _ => v = .int .i64 (m.ias.length : Nat)
  | 11, v, _ => v = .int .i64 ((m.opts.length + m.ias.length) : Nat)
  | 12, v, _ => v = .agg #[.int .i64 m.ty, .int .u32 m.xid, .string m.cl, .string m.sv, .slice Ai m.ias.length ci, .int .i64 m.code, .bool m.rap, .bool m.acc, .int .i64 m.again, .slice Ao m.opts.length co]
  | 13, v, _ => v = .int .i64 (w6fields m : Nat)
  | 14, v, _ => v = .int .i64 ((m.opts.length + m.ias.length + w6fields m : Nat) : Nat)
  | 15, v, _ => v = .bool true
  | 16, v, _ => v = .bool true
  | _, _, _ => True
set_option maxHeartbeats 4000000 in
set_option maxRecDepth 100000 in
theorem w6short12 (ops : Array Oper) (hops : ops = opsOf Try.f8 12) (id : Nat) (Q : Exit → Act → World → Prop) (act : Act) (w : World) (hsz0 : act.tmps.size = 93) (gn : Nat) (m : Ms) (A Ai Ao : Option Addr) (c ci co : Nat)
    (h8 : act.eval (.tmp 8) = .int .i64 0) (h11 : act.eval (.tmp 11) = .slice A (m.opts.length + m.ias.length + w6fields m) c) (h10 : act.eval (.tmp 10) = .pointer (some ⟨gn, 0, none⟩)) (bn : w.heap[gn]? = some (.cells (m.row (.slice Ai m.ias.length ci) (.slice Ao m.opts.length co)) 26 (0, 0))) (hsz : m.opts.length + m.ias.length + w6fields m ≤ 9000000000000000000)
    (hK : ∀ (u : Tmp → Value) (W : World), Below w.heap.size w W → Q .normal ((XReg.fills u [50, 51, 52, 53, 54, 55, 56, 57, 58, 59, 60, 61, 62, 63, 64, 65, 66] act).put (some 6) (.bool true)) W) :
    (Code.region id ops true).wp Try.prog Q act w := by
  subst hops
  refine (wpIn_wide (n := 9)).1 (XReg.region_runG (by kernel_rfl) [(2, true)] 17 (by rw [hsz0]; kernel_rfl) (w6short12V gn m A Ai Ao c ci co)
    (fun w' => Below w.heap.size w w') (by intro q hq v w' h; simp only [List.mem_cons, List.not_mem_nil, or_false] at hq; rcases hq with rfl <;> exact h) ?_ (fun w1 w2 h1 h2 => below_step h1 h2) ((Below.refl _ w).drew) ?_ ?_)
  · intro i v w1 w2 hv hb
    match i, hv with
    | 0, hv | 1, hv | 2, hv | 3, hv | 4, hv | 5, hv | 6, hv | 7, hv | 8, hv | 9, hv | 10, hv | 11, hv | 12, hv | 13, hv | 14, hv | 15, hv | 16, hv => exact hv
    | _ + 17, _ => trivial
  · intro i o a' w' hi ho hB hdf hr hd
    have qn := blk_below bn hB
    have hcases : i = 0 ∨ i = 1 ∨ i = 2 ∨ i = 3 ∨ i = 4 ∨ i = 5 ∨ i = 6 ∨ i = 7 ∨ i = 8 ∨ i = 9 ∨ i = 10 ∨ i = 11 ∨ i = 12 ∨ i = 13 ∨ i = 14 ∨ i = 15 ∨ i = 16 := by omega
    rcases hcases with rfl | rfl | rfl | rfl | rfl | rfl | rfl | rfl | rfl | rfl | rfl | rfl | rfl | rfl | rfl | rfl | rfl
    · obtain ⟨hop, hdst⟩ := XReg.op_is (x := .move (.tmp 8)) (d := some 50) ho (by kernel_rfl)
      have e0 := (hr 8 (by kernel_rfl)).trans h8
      refine XReg.val_ (v := .int .i64 0) (w1 := w') (by rw [hop]; intro c h; cases h) (by simp [Oper.about, hop]) ?_ ⟨_, rfl, Below.refl _ _, rfl⟩
      unfold execOp
      rw [hop]
      clear hr hd hB
      generalize a'.eval = ρ at e0 ⊢
      go_simp
    · obtain ⟨hop, hdst⟩ := XReg.op_is (x := .binOp .eql 30 (.tmp 50) (.const (.int .i64 0)) 30) (d := some 51) ho (by kernel_rfl)
      have e0 : a'.eval (.tmp 50) = .int .i64 0 := hd 0 50 (by kernel_rfl) (by omega)
      have k0 : a'.eval (.const (.int .i64 0)) = .int .i64 0 := rfl
      have hu0 := Try.underlying30
      refine XReg.val_ (v := .bool true) (w1 := w') (by rw [hop]; intro c h; cases h) (by simp [Oper.about, hop]) ?_ ⟨_, rfl, Below.refl _ _, rfl⟩
      unfold execOp
      rw [hop]
      clear hr hd hB
      generalize a'.eval = ρ at e0 k0 ⊢
      go_simp
    · obtain ⟨hop, hdst⟩ := XReg.op_is (x := .move (.tmp 51)) (d := some 52) ho (by kernel_rfl)
      have e0 : a'.eval (.tmp 51) = .bool true := hd 1 51 (by kernel_rfl) (by omega)
      refine XReg.val_ (v := .bool true) (w1 := w') (by rw [hop]; intro c h; cases h) (by simp [Oper.about, hop]) ?_ ⟨_, rfl, Below.refl _ _, rfl⟩
      unfold execOp
      rw [hop]
      clear hr hd hB
      generalize a'.eval = ρ at e0 ⊢
      go_simp
    · obtain ⟨hop, hdst⟩ := XReg.op_is (x := .move (.tmp 11)) (d := some 53) ho (by kernel_rfl)
      have e0 := (hr 11 (by kernel_rfl)).trans h11
      refine XReg.val_ (v := .slice A (m.opts.length + m.ias.length + w6fields m) c) (w1 := w') (by rw [hop]; intro c h; cases h) (by simp [Oper.about, hop]) ?_ ⟨_, rfl, Below.refl _ _, rfl⟩
      unfold execOp
      rw [hop]
      clear hr hd hB
      generalize a'.eval = ρ at e0 ⊢
      go_simp
    · obtain ⟨hop, hdst⟩ := XReg.op_is (x := .call { callee := .builtin .len, args := #[.tmp 53], argTypes := #[24] }) (d := some 54) ho (by kernel_rfl)
      have e0 : a'.eval (.tmp 53) = .slice A (m.opts.length + m.ias.length + w6fields m) c := hd 3 53 (by kernel_rfl) (by omega)
      have hu0 := Try.underlying24
      refine XReg.val_ (v := .int .i64 ((m.opts.length + m.ias.length + w6fields m : Nat) : Nat)) (w1 := w') (by rw [hop]; intro c h; cases h) (by unfold Oper.about; rw [hop]; rfl) ?_ ⟨_, rfl, Below.refl _ _, rfl⟩
      unfold execOp
      rw [hop]
      clear hr hd hB
      generalize a'.eval = ρ at e0 ⊢
      go_simp
    · obtain ⟨hop, hdst⟩ := XReg.op_is (x := .fieldAddr 26 (.tmp 10) 9) (d := some 55) ho (by kernel_rfl)
      have e0 := (hr 10 (by kernel_rfl)).trans h10
      have hu0 := Try.underlying26
      refine XReg.val_ (v := .pointer (some ⟨gn, 9, none⟩)) (w1 := w') (by rw [hop]; intro c h; cases h) (by simp [Oper.about, hop]) ?_ ⟨_, rfl, Below.refl _ _, rfl⟩
      unfold execOp
      rw [hop]
      clear hr hd hB
      generalize a'.eval = ρ at e0 ⊢
      go_simp
    · obtain ⟨hop, hdst⟩ := XReg.op_is (x := .load 24 (.tmp 55)) (d := some 56) ho (by kernel_rfl)
      have e0 : a'.eval (.tmp 55) = .pointer (some ⟨gn, 9, none⟩) := hd 5 55 (by kernel_rfl) (by omega)
      have hc : w'.cell? ⟨gn, 9, none⟩ = some (.slice Ao m.opts.length co) := (blk_cell qn 9).trans rfl
      have hu0 := Try.underlying24
      refine XReg.val_ (v := .slice Ao m.opts.length co) (w1 := w') (by rw [hop]; intro c h; cases h) (by simp [Oper.about, hop]) ?_ ⟨_, rfl, Below.refl _ _, rfl⟩
      unfold execOp
      rw [hop]
      clear hr hd hB
      generalize a'.eval = ρ at e0 ⊢
      go_simp
    · obtain ⟨hop, hdst⟩ := XReg.op_is (x := .call { callee := .builtin .len, args := #[.tmp 56], argTypes := #[24] }) (d := some 57) ho (by kernel_rfl)
      have e0 : a'.eval (.tmp 56) = .slice Ao m.opts.length co := hd 6 56 (by kernel_rfl) (by omega)
      have hu0 := Try.underlying24
      refine XReg.val_ (v := .int .i64 (m.opts.length : Nat)) (w1 := w') (by rw [hop]; intro c h; cases h) (by unfold Oper.about; rw [hop]; rfl) ?_ ⟨_, rfl, Below.refl _ _, rfl⟩
      unfold execOp
      rw [hop]
      clear hr hd hB
      generalize a'.eval = ρ at e0 ⊢
      go_simp
    · obtain ⟨hop, hdst⟩ := XReg.op_is (x := .fieldAddr 26 (.tmp 10) 4) (d := some 58) ho (by kernel_rfl)
      have e0 := (hr 10 (by kernel_rfl)).trans h10
      have hu0 := Try.underlying26
      refine XReg.val_ (v := .pointer (some ⟨gn, 4, none⟩)) (w1 := w') (by rw [hop]; intro c h; cases h) (by simp [Oper.about, hop]) ?_ ⟨_, rfl, Below.refl _ _, rfl⟩
      unfold execOp
      rw [hop]
      clear hr hd hB
      generalize a'.eval = ρ at e0 ⊢
      go_simp
    · obtain ⟨hop, hdst⟩ := XReg.op_is (x := .load 23 (.tmp 58)) (d := some 59) ho (by kernel_rfl)
      have e0 : a'.eval (.tmp 58) = .pointer (some ⟨gn, 4, none⟩) := hd 8 58 (by kernel_rfl) (by omega)
      have hc : w'.cell? ⟨gn, 4, none⟩ = some (.slice Ai m.ias.length ci) := (blk_cell qn 4).trans rfl
      have hu0 := Try.underlying23
      refine XReg.val_ (v := .slice Ai m.ias.length ci) (w1 := w') (by rw [hop]; intro c h; cases h) (by simp [Oper.about, hop]) ?_ ⟨_, rfl, Below.refl _ _, rfl⟩
      unfold execOp
      rw [hop]
      clear hr hd hB
      generalize a'.eval = ρ at e0 ⊢
      go_simp
    · obtain ⟨hop, hdst⟩ := XReg.op_is (x := .call { callee := .builtin .len, args := #[.tmp 59], argTypes := #[23] }) (d := some 60) ho (by kernel_rfl)
      have e0 : a'.eval (.tmp 59) = .slice Ai m.ias.length ci := hd 9 59 (by kernel_rfl) (by omega)
      have hu0 := Try.underlying23
      refine XReg.val_ (v := .int .i64 (m.ias.length : Nat)) (w1 := w') (by rw [hop]; intro c h; cases h) (by unfold Oper.about; rw [hop]; rfl) ?_ ⟨_, rfl, Below.refl _ _, rfl⟩
      unfold execOp
      rw [hop]
      clear hr hd hB
      generalize a'.eval = ρ at e0 ⊢
      go_simp
    · obtain ⟨hop, hdst⟩ := XReg.op_is (x := .binOp .add 3 (.tmp 57) (.tmp 60) 3) (d := some 61) ho (by kernel_rfl)
      have e0 : a'.eval (.tmp 57) = .int .i64 (m.opts.length : Nat) := hd 7 57 (by kernel_rfl) (by omega)
      have e1 : a'.eval (.tmp 60) = .int .i64 (m.ias.length : Nat) := hd 10 60 (by kernel_rfl) (by omega)
      have hu0 := Try.underlying3
      have hwr : wrap64 ((m.opts.length : Int) + (m.ias.length : Int)) = (m.opts.length : Int) + (m.ias.length : Int) := Go.IntWalk.wrap64_in _ (by omega)
      refine XReg.val_ (v := .int .i64 ((m.opts.length + m.ias.length) : Nat)) (w1 := w') (by rw [hop]; intro c h; cases h) (by simp [Oper.about, hop]) ?_ ⟨_, rfl, Below.refl _ _, rfl⟩
      unfold execOp
      rw [hop]
      clear hr hd hB
      generalize a'.eval = ρ at e0 e1 ⊢
      go_simp
      rw [IntKind.wrap_i64]; omega
    · obtain ⟨hop, hdst⟩ := XReg.op_is (x := .load 26 (.tmp 10)) (d := some 62) ho (by kernel_rfl)
      have e0 := (hr 10 (by kernel_rfl)).trans h10
      have hu26 := Try.underlying26
      have hi26 : (Try.prog.info? 26).map (·.size) = some 10 := by kernel_rfl
      refine XReg.val_ (v := .agg #[.int .i64 m.ty, .int .u32 m.xid, .string m.cl, .string m.sv, .slice Ai m.ias.length ci, .int .i64 m.code, .bool m.rap, .bool m.acc, .int .i64 m.again, .slice Ao m.opts.length co]) (w1 := w') (by rw [hop]; intro c h; cases h) (by simp [Oper.about, hop]) ?_ ⟨_, rfl, Below.refl _ _, rfl⟩
      unfold execOp
      rw [hop]
      clear hr hd hB
      simp [e0, Instr.loadAt, Instr.sureAddr, run_loadVar_row w' gn 26 26 (m.row (.slice Ai m.ias.length ci) (.slice Ao m.opts.length co)) (0, 0) _ qn hu26 rfl hi26, Result.andThen, Ms.row]
    · obtain ⟨hop, hdst⟩ := XReg.op_is (x := .call { callee := .value (.func 21), args := #[.tmp 62], argTypes := #[26] }) (d := some 63) ho (by kernel_rfl)
      have e0 : a'.eval (.tmp 62) = .agg #[.int .i64 m.ty, .int .u32 m.xid, .string m.cl, .string m.sv, .slice Ai m.ias.length ci, .int .i64 m.code, .bool m.rap, .bool m.acc, .int .i64 m.again, .slice Ao m.opts.length co] := hd 12 62 (by kernel_rfl) (by omega)
      refine XReg.call_ (ro := none) Try.func21 (by kernel_rfl) rfl #[.agg #[.int .i64 m.ty, .int .u32 m.xid, .string m.cl, .string m.sv, .slice Ai m.ias.length ci, .int .i64 m.code, .bool m.rap, .bool m.acc, .int .i64 m.again, .slice Ao m.opts.length co]] hop (by simp [e0]) ?_
      refine (tenancylaw16_fields.calls m Ai Ao m.ias.length ci m.opts.length co w').mono ?_
      rintro e w2 ⟨rfl, hb2⟩
      exact ⟨_, rfl, _, rfl, hb2, rfl⟩
    · obtain ⟨hop, hdst⟩ := XReg.op_is (x := .binOp .add 3 (.tmp 61) (.tmp 63) 3) (d := some 64) ho (by kernel_rfl)
      have e0 : a'.eval (.tmp 61) = .int .i64 ((m.opts.length + m.ias.length) : Nat) := hd 11 61 (by kernel_rfl) (by omega)
      have e1 : a'.eval (.tmp 63) = .int .i64 (w6fields m : Nat) := hd 13 63 (by kernel_rfl) (by omega)
      have hu0 := Try.underlying3
      have hwr : wrap64 ((m.opts.length : Int) + (m.ias.length : Int) + (w6fields m : Int)) = (m.opts.length : Int) + (m.ias.length : Int) + (w6fields m : Int) := Go.IntWalk.wrap64_in _ (by omega)
      refine XReg.val_ (v := .int .i64 ((m.opts.length + m.ias.length + w6fields m : Nat) : Nat)) (w1 := w') (by rw [hop]; intro c h; cases h) (by simp [Oper.about, hop]) ?_ ⟨_, rfl, Below.refl _ _, rfl⟩
      unfold execOp
      rw [hop]
      clear hr hd hB
      generalize a'.eval = ρ at e0 e1 ⊢
      go_simp
      rw [IntKind.wrap_i64]; omega
    · obtain ⟨hop, hdst⟩ := XReg.op_is (x := .binOp .eql 3 (.tmp 54) (.tmp 64) 3) (d := some 65) ho (by kernel_rfl)
      have e0 : a'.eval (.tmp 54) = .int .i64 ((m.opts.length + m.ias.length + w6fields m : Nat) : Nat) := hd 4 54 (by kernel_rfl) (by omega)
      have e1 : a'.eval (.tmp 64) = .int .i64 ((m.opts.length + m.ias.length + w6fields m : Nat) : Nat) := hd 14 64 (by kernel_rfl) (by omega)
      have hu0 := Try.underlying3
      refine XReg.val_ (v := .bool true) (w1 := w') (by rw [hop]; intro c h; cases h) (by simp [Oper.about, hop]) ?_ ⟨_, rfl, Below.refl _ _, rfl⟩
      unfold execOp
      rw [hop]
      clear hr hd hB
      generalize a'.eval = ρ at e0 e1 ⊢
      go_simp
    · obtain ⟨hop, hdst⟩ := XReg.op_is (x := .pick (.tmp 52) (.tmp 65) (.const (.bool false))) (d := some 66) ho (by kernel_rfl)
      have e0 : a'.eval (.tmp 52) = .bool true := hd 2 52 (by kernel_rfl) (by omega)
      have e1 : a'.eval (.tmp 65) = .bool true := hd 15 65 (by kernel_rfl) (by omega)
      have k0 : a'.eval (.const (.bool false)) = .bool false := rfl
      refine XReg.val_ (v := .bool true) (w1 := w') (by rw [hop]; intro c h; cases h) (by simp [Oper.about, hop]) ?_ ⟨_, rfl, Below.refl _ _, rfl⟩
      unfold execOp
      rw [hop]
      clear hr hd hB
      generalize a'.eval = ρ at e0 e1 k0 ⊢
      go_simp
  · intro o a' w' ho hB hdf hsz' hr hd
    have qn := blk_below bn hB
    have hfill := XReg.fill_eq [50, 51, 52, 53, 54, 55, 56, 57, 58, 59, 60, 61, 62, 63, 64, 65, 66] hsz' hdf (XReg.rest_of (ops := opsOf Try.f8 12) (m := 17) (by kernel_rfl) hr)
    obtain ⟨hop, hdst⟩ := XReg.op_is (x := .assign (.tmp 66)) (d := some 6) ho (by kernel_rfl)
    have e0 : a'.eval (.tmp 66) = .bool true := hd 16 66 (by kernel_rfl) (by omega)
    refine XReg.val_ (v := .bool true) (w1 := w') (by rw [hop]; intro c h; cases h) (by simp [Oper.about, hop]) ?_ (by rw [hdst, hfill]; exact hK _ w' hB)
    unfold execOp
    rw [hop]
    clear hr hd hB hfill hK
    generalize a'.eval = ρ at e0 ⊢
    go_simp
def w6short18V (s : ByteArray) (b er : Int) : Nat → Value → World → Prop
  | 0, v, _ => v = .int .u8 b
  | 1, v, w => ∃ g, v = .slice (some ⟨g, 0, none⟩) 1 1 ∧ w.heap[g]? = some (.cells #[.int .u8 b] 5 (0, 0))
  | 2, v, _ => v = .string (strOfNums [b])
  | 3, v, _ => v = .string s
  | 4, v, _ => v = .string (s.extract 1 s.size)
  | 5, v, _ => v = .string (strOfNums [b] ++ s.extract 1 s.size)
  | 6, v, _ => ∃ c : Array Value, v = .tuple #[.agg c, .int .i64 er] ∧ True
  | 7, v, _ => ∃ c : Array Value, v = .tuple #[.agg c, .int .i64 er] ∧ True
  | 8, v, _ => True
  | 9, v, _ => v = .int .i64 er
  | _, _, _ => True
set_option maxHeartbeats 4000000 in
set_option maxRecDepth 100000 in
theorem w6short18 (ops : Array Oper) (hops : ops = opsOf Try.f8 18) (id : Nat) (Q : Exit → Act → World → Prop) (act : Act) (w : World) (hsz0 : act.tmps.size = 93) (k : Nat) (s : ByteArray) (b : Int) (mz : Ms) (er : Int)
    (h13 : act.eval (.tmp 13) = .int .u8 b) (h7 : act.eval (.tmp 7) = .string s) (hdec : wire6_Decode.f k (strOfNums [b] ++ s.extract 1 s.size) = some (mz, er)) (hsz : 1 ≤ s.size ∧ s.size ≤ 65507)
    (hK : ∀ (u : Tmp → Value) (W : World), Below w.heap.size w W → Q .normal ((XReg.fills u [82, 83, 84, 85, 86, 87, 88, 81, 89, 90] act).put (some 8) (.int .i64 er)) W) :
    (Code.region id ops true).wp Try.prog Q act w := by
  subst hops
  refine (wpIn_wide (n := 9)).1 (XReg.region_runD (by kernel_rfl) 10 (by rw [hsz0]; kernel_rfl) (w6short18V s b er)
    (fun w' => Below w.heap.size w w') ?_ (fun w1 w2 h1 h2 => below_step h1 h2) ((Below.refl _ w).drew) ?_ ?_)
  · intro i v w1 w2 hv hb
    match i, hv with
    | 1, ⟨g, e, hg⟩ => exact ⟨g, e, blk_below hg hb⟩
    | 0, hv | 2, hv | 3, hv | 4, hv | 5, hv | 6, hv | 7, hv | 8, hv | 9, hv => exact hv
    | _ + 10, _ => trivial
  · intro i o a' w' hi ho hB hdf hr hd
    have hcases : i = 0 ∨ i = 1 ∨ i = 2 ∨ i = 3 ∨ i = 4 ∨ i = 5 ∨ i = 6 ∨ i = 7 ∨ i = 8 ∨ i = 9 := by omega
    rcases hcases with rfl | rfl | rfl | rfl | rfl | rfl | rfl | rfl | rfl | rfl
    · obtain ⟨hop, hdst⟩ := XReg.op_is (x := .move (.tmp 13)) (d := some 82) ho (by kernel_rfl)
      have e0 := (hr 13 (by kernel_rfl)).trans h13
      refine XReg.val_ (v := .int .u8 b) (w1 := w') (by rw [hop]; intro c h; cases h) (by simp [Oper.about, hop]) ?_ ⟨_, rfl, Below.refl _ _, rfl⟩
      unfold execOp
      rw [hop]
      clear hr hd hB
      generalize a'.eval = ρ at e0 ⊢
      go_simp
    · obtain ⟨hop, hdst⟩ := XReg.op_is (x := .buildSlice 47 1 #[(0, .tmp 82)]) (d := some 83) ho (by kernel_rfl)
      have e0 : a'.eval (.tmp 82) = .int .u8 b := hd 0 82 (by kernel_rfl) (by omega)
      have hu0 := Try.underlying47
      have hu1 := Try.underlying5
      refine XReg.val_ (v := .slice (some ⟨w'.heap.size, 0, none⟩) 1 1) (w1 := w'.alloc (.cells #[.int .u8 b] 5)) (by rw [hop]; intro c h; cases h) (by simp [Oper.about, hop]) ?_ ⟨_, rfl, below_alloc (Below.refl _ _) _, ⟨_, rfl, blk_new w' _⟩⟩
      unfold execOp
      rw [hop]
      clear hr hd hB
      generalize a'.eval = ρ at e0 ⊢
      go_simp
    · obtain ⟨hop, hdst⟩ := XReg.op_is (x := .convert 47 9 (.tmp 83)) (d := some 84) ho (by kernel_rfl)
      obtain ⟨g, e0, hg⟩ : ∃ g, a'.eval (.tmp 83) = .slice (some ⟨g, 0, none⟩) 1 1 ∧ w'.heap[g]? = some (.cells #[.int .u8 b] 5 (0, 0)) := hd 1 83 (by kernel_rfl) (by omega)
      have hcv := run_convert_bytes_arg (P := Try.prog) w' 47 5 Try.underlying47 Try.underlying5 g 0 1 1 [b] rfl (fun i hi => by
        rw [Nat.zero_add]
        match i, hi with
        | 0, _ => exact (blk_cell hg 0).trans rfl) 9 Try.underlying9
      refine XReg.val_ (v := .string (strOfNums [b])) (w1 := w') (by rw [hop]; intro c h; cases h) (by simp [Oper.about, hop]) ?_ ⟨_, rfl, Below.refl _ _, rfl⟩
      unfold execOp
      rw [hop]
      clear hr hd hB
      generalize a'.eval = ρ at e0 ⊢
      simp [e0, hcv, Result.andThen]
    · obtain ⟨hop, hdst⟩ := XReg.op_is (x := .move (.tmp 7)) (d := some 85) ho (by kernel_rfl)
      have e0 := (hr 7 (by kernel_rfl)).trans h7
      refine XReg.val_ (v := .string s) (w1 := w') (by rw [hop]; intro c h; cases h) (by simp [Oper.about, hop]) ?_ ⟨_, rfl, Below.refl _ _, rfl⟩
      unfold execOp
      rw [hop]
      clear hr hd hB
      generalize a'.eval = ρ at e0 ⊢
      go_simp
    · obtain ⟨hop, hdst⟩ := XReg.op_is (x := .slice 9 (.tmp 85) (some (.const (.int .i64 1))) none none) (d := some 86) ho (by kernel_rfl)
      have e0 : a'.eval (.tmp 85) = .string s := hd 3 85 (by kernel_rfl) (by omega)
      have k0 : a'.eval (.const (.int .i64 1)) = .int .i64 1 := rfl
      have hu0 := Try.underlying9
      have hs1 := hsz.1
      refine XReg.val_ (v := .string (s.extract 1 s.size)) (w1 := w') (by rw [hop]; intro c h; cases h) (by simp [Oper.about, hop]) ?_ ⟨_, rfl, Below.refl _ _, rfl⟩
      unfold execOp
      rw [hop]
      clear hr hd hB
      generalize a'.eval = ρ at e0 k0 ⊢
      go_simp
      intro hneg
      omega
    · obtain ⟨hop, hdst⟩ := XReg.op_is (x := .binOp .add 9 (.tmp 84) (.tmp 86) 9) (d := some 87) ho (by kernel_rfl)
      have e0 : a'.eval (.tmp 84) = .string (strOfNums [b]) := hd 2 84 (by kernel_rfl) (by omega)
      have e1 : a'.eval (.tmp 86) = .string (s.extract 1 s.size) := hd 4 86 (by kernel_rfl) (by omega)
      have hu0 := Try.underlying9
      refine XReg.val_ (v := .string (strOfNums [b] ++ s.extract 1 s.size)) (w1 := w') (by rw [hop]; intro c h; cases h) (by simp [Oper.about, hop]) ?_ ⟨_, rfl, Below.refl _ _, rfl⟩
      unfold execOp
      rw [hop]
      clear hr hd hB
      have hs : (strOfNums [b]).size + (s.extract 1 s.size).size ≤ 9223372036854775807 := by (rw [ByteArray.size_extract]; have h1_ : (strOfNums [b]).size = 1 := rfl; have := hsz.2; omega)
      generalize a'.eval = ρ at e0 e1 ⊢
      go_simp
      (rw [ByteArray.size_extract] at hs; omega)
    · obtain ⟨hop, hdst⟩ := XReg.op_is (x := .call { callee := .value (.func 17), args := #[.tmp 87], argTypes := #[9] }) (d := some 88) ho (by kernel_rfl)
      have e0 : a'.eval (.tmp 87) = .string (strOfNums [b] ++ s.extract 1 s.size) := hd 5 87 (by kernel_rfl) (by omega)
      refine XReg.call_ (ro := none) Try.func17 (by kernel_rfl) rfl #[.string (strOfNums [b] ++ s.extract 1 s.size)] hop (by simp [e0]) ?_
      refine (wire6_Decode.calls k _ mz er w' hdec).mono ?_
      rintro e w2 ⟨vi, vo, rfl, _, _, hb2⟩
      exact ⟨_, rfl, _, rfl, hb2, _, rfl, trivial⟩
    · obtain ⟨hop, hdst⟩ := XReg.op_is (x := .move (.tmp 88)) (d := some 81) ho (by kernel_rfl)
      obtain ⟨c, e0, _⟩ : ∃ c : Array Value, a'.eval (.tmp 88) = .tuple #[.agg c, .int .i64 er] ∧ True := hd 6 88 (by kernel_rfl) (by omega)
      refine XReg.val_ (v := .tuple #[.agg c, .int .i64 er]) (w1 := w') (by rw [hop]; intro c h; cases h) (by simp [Oper.about, hop]) ?_ ⟨_, rfl, Below.refl _ _, _, rfl, trivial⟩
      unfold execOp
      rw [hop]
      clear hr hd hB
      generalize a'.eval = ρ at e0 ⊢
      go_simp
    · obtain ⟨hop, hdst⟩ := XReg.op_is (x := .extract (.tmp 81) 0) (d := some 89) ho (by kernel_rfl)
      obtain ⟨c, e0, _⟩ : ∃ c : Array Value, a'.eval (.tmp 81) = .tuple #[.agg c, .int .i64 er] ∧ True := hd 7 81 (by kernel_rfl) (by omega)
      refine XReg.val_ (v := .agg c) (w1 := w') (by rw [hop]; intro c h; cases h) (by simp [Oper.about, hop]) ?_ ⟨_, rfl, Below.refl _ _, trivial⟩
      unfold execOp
      rw [hop]
      clear hr hd hB
      generalize a'.eval = ρ at e0 ⊢
      go_simp
    · obtain ⟨hop, hdst⟩ := XReg.op_is (x := .extract (.tmp 81) 1) (d := some 90) ho (by kernel_rfl)
      obtain ⟨c, e0, _⟩ : ∃ c : Array Value, a'.eval (.tmp 81) = .tuple #[.agg c, .int .i64 er] ∧ True := hd 7 81 (by kernel_rfl) (by omega)
      refine XReg.val_ (v := .int .i64 er) (w1 := w') (by rw [hop]; intro c h; cases h) (by simp [Oper.about, hop]) ?_ ⟨_, rfl, Below.refl _ _, rfl⟩
      unfold execOp
      rw [hop]
      clear hr hd hB
      generalize a'.eval = ρ at e0 ⊢
      go_simp
  · intro o a' w' ho hB hdf hsz' hr hd
    have hfill := XReg.fill_eq [82, 83, 84, 85, 86, 87, 88, 81, 89, 90] hsz' hdf (XReg.rest_of (ops := opsOf Try.f8 18) (m := 10) (by kernel_rfl) hr)
    obtain ⟨hop, hdst⟩ := XReg.op_is (x := .assign (.tmp 90)) (d := some 8) ho (by kernel_rfl)
    have e0 : a'.eval (.tmp 90) = .int .i64 er := hd 9 90 (by kernel_rfl) (by omega)
    refine XReg.val_ (v := .int .i64 er) (w1 := w') (by rw [hop]; intro c h; cases h) (by simp [Oper.about, hop]) ?_ (by rw [hdst, hfill]; exact hK _ w' hB)
    unfold execOp
    rw [hop]
    clear hr hd hB hfill hK
    generalize a'.eval = ρ at e0 ⊢
    go_simp

set_option maxHeartbeats 8000000 in
set_option maxRecDepth 100000 in
theorem w6short_err (k : Nat) (m : Ms) (Ai Ao : Option Addr) (ci co : Nat) (cut kind : Int) (es : ByteArray) (ee : Int) (w : World) (hai : Kd.C k51 w Ai m.ias.length m.ias) (hci : m.ias.length ≤ ci) (hao : Kd.C k42 w Ao m.opts.length m.opts) (hco : m.opts.length ≤ co)
    (haw : tenancylaw16_awake.f 30 = some true) (hen : wire6_Encode.f k m.ty m.xid m.cl m.sv m.ias m.code m.rap m.acc m.again m.opts = some (es, ee)) (he : (ee != 0) = true) :
    Calls Try.prog 8 #[.agg #[.int .i64 m.ty, .int .u32 m.xid, .string m.cl, .string m.sv, .slice Ai m.ias.length ci, .int .i64 m.code, .bool m.rap, .bool m.acc, .int .i64 m.again, .slice Ao m.opts.length co], .int .i64 cut, .int .i64 kind] w fun e w' => e = .returned (.bool true) ∧ Below w.heap.size w w' := by
  have hu26 := Try.underlying26
  have hi26 : (Try.prog.info? 26).map (·.size) = some 10 := by kernel_rfl
  have HAI := Aside0.mk hai
  have HCI := Aside0.mk hci
  have HAO := Aside0.mk hao
  have HCO := Aside0.mk hco
  have HAW := Aside0.mk haw
  have HEN := Aside0.mk hen
  clear hai hci hao hco haw hen
  go_enter Try.func8, Try.ntmps8
  go_upto_region 1 with fail
  have BK := Aside0.mk (blk_new w (.cells #[.int .i64 m.ty, .int .u32 m.xid, .string m.cl, .string m.sv, .slice Ai m.ias.length ci, .int .i64 m.code, .bool m.rap, .bool m.acc, .int .i64 m.again, .slice Ao m.opts.length co] 26))
  have HB := Aside0.mk (below_alloc (Below.refl _ w) (.cells #[.int .i64 m.ty, .int .u32 m.xid, .string m.cl, .string m.sv, .slice Ai m.ias.length ci, .int .i64 m.code, .bool m.rap, .bool m.acc, .int .i64 m.again, .slice Ao m.opts.length co] 26))
  generalize w.alloc (.cells #[.int .i64 m.ty, .int .u32 m.xid, .string m.cl, .string m.sv, .slice Ai m.ias.length ci, .int .i64 m.code, .bool m.rap, .bool m.acc, .int .i64 m.again, .slice Ao m.opts.length co] 26) = w1 at BK HB ⊢
  generalize w.heap.size = gb at BK ⊢
  go_upto_region 4 with (first | (go_at_call 9; refine (tenancylaw16_awake.calls 30 true _ HAW.out).mono ?_; rintro e wb ⟨rfl, hb⟩; have BKb := Aside0.mk (blk_below BK.out hb); have HBb := Aside0.mk (below_step HB.out hb); clear hb) | ((with_reducible refine gate_dst (N := 17) rfl ?_); refine XBox.loadL_ 17 rfl rfl 26 rfl gb rfl _ BKb.out hu26 rfl hi26 ?_; simp only [Act.put, List.setIfInBounds_toArray, List.set_cons_zero, List.set_cons_succ]) | (go_at_call 13; refine (wire6_Encode.calls k m.ty m.xid m.cl m.sv Ai ci m.ias m.code m.rap m.acc m.again Ao co m.opts es ee _ (Kd.C_below HAI.out HBb.out) HCI.out (Kd.C_below HAO.out HBb.out) HCO.out HEN.out).mono ?_; rintro e wc ⟨rfl, hb⟩; have HBc := Aside0.mk (below_step HBb.out hb); clear hb))
  clear BK BKb HB HBb
  go_wp2
  go_ret
  exact ⟨rfl, by first | exact HBc.out | exact below_drew1 HBc.out | exact pw_below_drewN HBc.out _⟩
set_option maxHeartbeats 8000000 in
set_option maxRecDepth 100000 in
theorem w6short_cut (k : Nat) (m : Ms) (Ai Ao : Option Addr) (ci co : Nat) (cut kind : Int) (es : ByteArray) (w : World) (hai : Kd.C k51 w Ai m.ias.length m.ias) (hci : m.ias.length ≤ ci) (hao : Kd.C k42 w Ao m.opts.length m.opts) (hco : m.opts.length ≤ co)
    (haw : tenancylaw16_awake.f 30 = some true) (hen : wire6_Encode.f k m.ty m.xid m.cl m.sv m.ias m.code m.rap m.acc m.again m.opts = some (es, 0))
    (hsz : 1 ≤ es.size ∧ es.size ≤ 65507) (c : Nat) (hc : c < es.size ∧ (IntKind.u64.wrap cut).tmod (es.size : Int) = (c : Int)) (md : Ms) (hde : wire6_Decode.f k (es.extract 0 c) = some (md, 3)) (hc4 : c < 4):
    Calls Try.prog 8 #[.agg #[.int .i64 m.ty, .int .u32 m.xid, .string m.cl, .string m.sv, .slice Ai m.ias.length ci, .int .i64 m.code, .bool m.rap, .bool m.acc, .int .i64 m.again, .slice Ao m.opts.length co], .int .i64 cut, .int .i64 kind] w fun e w' => e = .returned (.bool true) ∧ Below w.heap.size w w' := by
  have hu26 := Try.underlying26
  have hi26 : (Try.prog.info? 26).map (·.size) = some 10 := by kernel_rfl
  have HAI := Aside0.mk hai
  have HCI := Aside0.mk hci
  have HAO := Aside0.mk hao
  have HCO := Aside0.mk hco
  have HAW := Aside0.mk haw
  have HEN := Aside0.mk hen
  clear hai hci hao hco haw hen
  have HSZ := Aside0.mk hsz
  have HCU := Aside0.mk hc
  have HDE := Aside0.mk hde
  clear hsz hc hde
  have HC4 := Aside0.mk hc4
  clear hc4
  go_enter Try.func8, Try.ntmps8
  go_upto_region 1 with fail
  have BK := Aside0.mk (blk_new w (.cells #[.int .i64 m.ty, .int .u32 m.xid, .string m.cl, .string m.sv, .slice Ai m.ias.length ci, .int .i64 m.code, .bool m.rap, .bool m.acc, .int .i64 m.again, .slice Ao m.opts.length co] 26))
  have HB := Aside0.mk (below_alloc (Below.refl _ w) (.cells #[.int .i64 m.ty, .int .u32 m.xid, .string m.cl, .string m.sv, .slice Ai m.ias.length ci, .int .i64 m.code, .bool m.rap, .bool m.acc, .int .i64 m.again, .slice Ao m.opts.length co] 26))
  generalize w.alloc (.cells #[.int .i64 m.ty, .int .u32 m.xid, .string m.cl, .string m.sv, .slice Ai m.ias.length ci, .int .i64 m.code, .bool m.rap, .bool m.acc, .int .i64 m.again, .slice Ao m.opts.length co] 26) = w1 at BK HB ⊢
  generalize w.heap.size = gb at BK ⊢
  go_upto_region 4 with (first | (go_at_call 9; refine (tenancylaw16_awake.calls 30 true _ HAW.out).mono ?_; rintro e wb ⟨rfl, hb⟩; have BKb := Aside0.mk (blk_below BK.out hb); have HBb := Aside0.mk (below_step HB.out hb); clear hb) | ((with_reducible refine gate_dst (N := 17) rfl ?_); refine XBox.loadL_ 17 rfl rfl 26 rfl gb rfl _ BKb.out hu26 rfl hi26 ?_; simp only [Act.put, List.setIfInBounds_toArray, List.set_cons_zero, List.set_cons_succ]) | (go_at_call 13; refine (wire6_Encode.calls k m.ty m.xid m.cl m.sv Ai ci m.ias m.code m.rap m.acc m.again Ao co m.opts es 0 _ (Kd.C_below HAI.out HBb.out) HCI.out (Kd.C_below HAO.out HBb.out) HCO.out HEN.out).mono ?_; rintro e wc ⟨rfl, hb⟩; have HBc := Aside0.mk (below_step HBb.out hb); clear hb))
  clear BK BKb HB HBb
  go_upto_region 6 with fail
  have hcu := HCU.out.2
  have hz1 : ((es.size : Int) = 0) = False := eq_false (by have := HSZ.out.1; omega)
  have hz2 : (es = ByteArray.empty) = False := eq_false (fun h => by have := HSZ.out.1; rw [h] at this; exact absurd this (by decide))
  have hzw : IntKind.u64.wrap (es.size : Int) = (es.size : Int) := by rw [IntKind.wrap_u64]; have := HSZ.out.2; omega
  have hcw : wrap64 (c : Int) = (c : Int) := by have := HCU.out.1; have := HSZ.out.2; unfold wrap64; omega
  have hcs : (c ≤ es.size) = True := eq_true (by have := HCU.out.1; omega)
  go_upto_region 7 with fail
  rw [hcw]
  clear hcu hz1 hz2 hzw hcw
  go_upto_region 8 with (go_at_call 17; refine (wire6_Decode.calls k (es.extract 0 c) md 3 _ HDE.out).mono ?_; rintro e wd ⟨vi, vo, rfl, RI, RO, hb⟩; obtain ⟨Aj, cj, rfl⟩ := Kd.R_slice RI; obtain ⟨Ap, cp, rfl⟩ := Kd.R_slice RO; clear RI RO; dsimp only [Ms.row]; have HBd := Aside0.mk (below_step HBc.out hb); clear hb)
  clear hcs HBc
  have BN := Aside0.mk (blk_new wd (.cells #[.int .i64 md.ty, .int .u32 md.xid, .string md.cl, .string md.sv, .slice Aj md.ias.length cj, .int .i64 md.code, .bool md.rap, .bool md.acc, .int .i64 md.again, .slice Ap md.opts.length cp] 26))
  have HBe := Aside0.mk (below_alloc HBd.out (.cells #[.int .i64 md.ty, .int .u32 md.xid, .string md.cl, .string md.sv, .slice Aj md.ias.length cj, .int .i64 md.code, .bool md.rap, .bool md.acc, .int .i64 md.again, .slice Ap md.opts.length cp] 26))
  clear HBd
  generalize wd.alloc (.cells #[.int .i64 md.ty, .int .u32 md.xid, .string md.cl, .string md.sv, .slice Aj md.ias.length cj, .int .i64 md.code, .bool md.rap, .bool md.acc, .int .i64 md.again, .slice Ap md.opts.length cp] 26) = we at BN HBe ⊢
  generalize wd.heap.size = gn at BN ⊢
  have hc4 : (c : Int) < 4 := by have := HC4.out; omega
  go_wp2
  go_ret
  exact ⟨rfl, by first | exact HBe.out | exact below_drew1 HBe.out | exact pw_below_drewN HBe.out _⟩
set_option maxHeartbeats 8000000 in
set_option maxRecDepth 100000 in
theorem w6short_parse (k : Nat) (m : Ms) (Ai Ao : Option Addr) (ci co : Nat) (cut kind : Int) (es : ByteArray) (w : World) (hai : Kd.C k51 w Ai m.ias.length m.ias) (hci : m.ias.length ≤ ci) (hao : Kd.C k42 w Ao m.opts.length m.opts) (hco : m.opts.length ≤ co)
    (haw : tenancylaw16_awake.f 30 = some true) (hen : wire6_Encode.f k m.ty m.xid m.cl m.sv m.ias m.code m.rap m.acc m.again m.opts = some (es, 0))
    (hsz : 1 ≤ es.size ∧ es.size ≤ 65507) (c : Nat) (hc : c < es.size ∧ (IntKind.u64.wrap cut).tmod (es.size : Int) = (c : Int)) (md : Ms) (hde : wire6_Decode.f k (es.extract 0 c) = some (md, 0)) (hc4 : 4 ≤ c) (l : List S42) (hp : opt6_Parse.f k (es.extract 4 c) = some (l, 0)) (hll : l.length = md.opts.length + md.ias.length + w6fields md) (hlb : md.opts.length + md.ias.length + w6fields md ≤ 9000000000000000000):
    Calls Try.prog 8 #[.agg #[.int .i64 m.ty, .int .u32 m.xid, .string m.cl, .string m.sv, .slice Ai m.ias.length ci, .int .i64 m.code, .bool m.rap, .bool m.acc, .int .i64 m.again, .slice Ao m.opts.length co], .int .i64 cut, .int .i64 kind] w fun e w' => e = .returned (.bool true) ∧ Below w.heap.size w w' := by
  have hu26 := Try.underlying26
  have hi26 : (Try.prog.info? 26).map (·.size) = some 10 := by kernel_rfl
  have HAI := Aside0.mk hai
  have HCI := Aside0.mk hci
  have HAO := Aside0.mk hao
  have HCO := Aside0.mk hco
  have HAW := Aside0.mk haw
  have HEN := Aside0.mk hen
  clear hai hci hao hco haw hen
  have HSZ := Aside0.mk hsz
  have HCU := Aside0.mk hc
  have HDE := Aside0.mk hde
  clear hsz hc hde
  have HC4 := Aside0.mk hc4
  clear hc4
  have HP := Aside0.mk hp
  clear hp
  have HLL := Aside0.mk hll
  clear hll
  have HLB := Aside0.mk hlb
  clear hlb
  go_enter Try.func8, Try.ntmps8
  go_upto_region 1 with fail
  have BK := Aside0.mk (blk_new w (.cells #[.int .i64 m.ty, .int .u32 m.xid, .string m.cl, .string m.sv, .slice Ai m.ias.length ci, .int .i64 m.code, .bool m.rap, .bool m.acc, .int .i64 m.again, .slice Ao m.opts.length co] 26))
  have HB := Aside0.mk (below_alloc (Below.refl _ w) (.cells #[.int .i64 m.ty, .int .u32 m.xid, .string m.cl, .string m.sv, .slice Ai m.ias.length ci, .int .i64 m.code, .bool m.rap, .bool m.acc, .int .i64 m.again, .slice Ao m.opts.length co] 26))
  generalize w.alloc (.cells #[.int .i64 m.ty, .int .u32 m.xid, .string m.cl, .string m.sv, .slice Ai m.ias.length ci, .int .i64 m.code, .bool m.rap, .bool m.acc, .int .i64 m.again, .slice Ao m.opts.length co] 26) = w1 at BK HB ⊢
  generalize w.heap.size = gb at BK ⊢
  go_upto_region 4 with (first | (go_at_call 9; refine (tenancylaw16_awake.calls 30 true _ HAW.out).mono ?_; rintro e wb ⟨rfl, hb⟩; have BKb := Aside0.mk (blk_below BK.out hb); have HBb := Aside0.mk (below_step HB.out hb); clear hb) | ((with_reducible refine gate_dst (N := 17) rfl ?_); refine XBox.loadL_ 17 rfl rfl 26 rfl gb rfl _ BKb.out hu26 rfl hi26 ?_; simp only [Act.put, List.setIfInBounds_toArray, List.set_cons_zero, List.set_cons_succ]) | (go_at_call 13; refine (wire6_Encode.calls k m.ty m.xid m.cl m.sv Ai ci m.ias m.code m.rap m.acc m.again Ao co m.opts es 0 _ (Kd.C_below HAI.out HBb.out) HCI.out (Kd.C_below HAO.out HBb.out) HCO.out HEN.out).mono ?_; rintro e wc ⟨rfl, hb⟩; have HBc := Aside0.mk (below_step HBb.out hb); clear hb))
  clear BK BKb HB HBb
  go_upto_region 6 with fail
  have hcu := HCU.out.2
  have hz1 : ((es.size : Int) = 0) = False := eq_false (by have := HSZ.out.1; omega)
  have hz2 : (es = ByteArray.empty) = False := eq_false (fun h => by have := HSZ.out.1; rw [h] at this; exact absurd this (by decide))
  have hzw : IntKind.u64.wrap (es.size : Int) = (es.size : Int) := by rw [IntKind.wrap_u64]; have := HSZ.out.2; omega
  have hcw : wrap64 (c : Int) = (c : Int) := by have := HCU.out.1; have := HSZ.out.2; unfold wrap64; omega
  have hcs : (c ≤ es.size) = True := eq_true (by have := HCU.out.1; omega)
  go_upto_region 7 with fail
  rw [hcw]
  clear hcu hz1 hz2 hzw hcw
  go_upto_region 8 with (go_at_call 17; refine (wire6_Decode.calls k (es.extract 0 c) md 0 _ HDE.out).mono ?_; rintro e wd ⟨vi, vo, rfl, RI, RO, hb⟩; obtain ⟨Aj, cj, rfl⟩ := Kd.R_slice RI; obtain ⟨Ap, cp, rfl⟩ := Kd.R_slice RO; clear RI RO; dsimp only [Ms.row]; have HBd := Aside0.mk (below_step HBc.out hb); clear hb)
  clear hcs HBc
  have BN := Aside0.mk (blk_new wd (.cells #[.int .i64 md.ty, .int .u32 md.xid, .string md.cl, .string md.sv, .slice Aj md.ias.length cj, .int .i64 md.code, .bool md.rap, .bool md.acc, .int .i64 md.again, .slice Ap md.opts.length cp] 26))
  have HBe := Aside0.mk (below_alloc HBd.out (.cells #[.int .i64 md.ty, .int .u32 md.xid, .string md.cl, .string md.sv, .slice Aj md.ias.length cj, .int .i64 md.code, .bool md.rap, .bool md.acc, .int .i64 md.again, .slice Ap md.opts.length cp] 26))
  clear HBd
  generalize wd.alloc (.cells #[.int .i64 md.ty, .int .u32 md.xid, .string md.cl, .string md.sv, .slice Aj md.ias.length cj, .int .i64 md.code, .bool md.rap, .bool md.acc, .int .i64 md.again, .slice Ap md.opts.length cp] 26) = we at BN HBe ⊢
  generalize wd.heap.size = gn at BN ⊢
  have hc4 : ¬ (c : Int) < 4 := by have := HC4.out; omega
  go_upto_region 10 with fail
  have hc5 : (4 ≤ c) = True := eq_true HC4.out
  have hc6 : ((4 : Int) ≤ (c : Int)) = True := eq_true (by have := HC4.out; omega)
  have hcs : (c ≤ es.size) = True := eq_true (by have := HCU.out.1; omega)
  clear hc4
  go_upto_region 11 with (go_at_call 19; refine (opt6_Parse.calls k (es.extract 4 c) l 0 _ HP.out).mono ?_; rintro e wp ⟨v0, rfl, RL, hb⟩; obtain ⟨Al, cl, rfl⟩ := Kd.R_slice RL; rw [HLL.out]; clear RL; have BN2 := Aside0.mk (blk_below BN.out hb); have HBp := Aside0.mk (below_step HBe.out hb); clear hb)
  clear BN HBe hc5 hc6 hcs
  go_upto_region 12 with fail
  refine w6short12 _ rfl _ _ _ _ (by kernel_rfl) gn md Al Aj Ap cl cj cp rfl rfl rfl BN2.out HLB.out ?_
  intro u W hb
  have HBq := Aside0.mk (below_step HBp.out hb)
  clear hb BN2 HBp
  simp only [XReg.fills, List.foldl_cons, List.foldl_nil, Act.put, List.setIfInBounds_toArray, List.set_cons_zero, List.set_cons_succ]
  go_wp2
  go_ret
  exact ⟨rfl, by first | exact HBq.out | exact below_drew1 HBq.out | exact pw_below_drewN HBq.out _⟩
set_option maxHeartbeats 8000000 in
set_option maxRecDepth 100000 in
theorem w6short_kind (k : Nat) (m : Ms) (Ai Ao : Option Addr) (ci co : Nat) (cut kind : Int) (es : ByteArray) (w : World) (hai : Kd.C k51 w Ai m.ias.length m.ias) (hci : m.ias.length ≤ ci) (hao : Kd.C k42 w Ao m.opts.length m.opts) (hco : m.opts.length ≤ co)
    (haw : tenancylaw16_awake.f 30 = some true) (hen : wire6_Encode.f k m.ty m.xid m.cl m.sv m.ias m.code m.rap m.acc m.again m.opts = some (es, 0))
    (hsz : 1 ≤ es.size ∧ es.size ≤ 65507) (c : Nat) (hc : c < es.size ∧ (IntKind.u64.wrap cut).tmod (es.size : Int) = (c : Int)) (md : Ms) (hde : wire6_Decode.f k (es.extract 0 c) = some (md, 3)) (hc4 : 4 ≤ c) (l : List S42) (hp : opt6_Parse.f k (es.extract 4 c) = some (l, 3)) (hk : 1 ≤ kind % 256 ∧ kind % 256 ≤ 11):
    Calls Try.prog 8 #[.agg #[.int .i64 m.ty, .int .u32 m.xid, .string m.cl, .string m.sv, .slice Ai m.ias.length ci, .int .i64 m.code, .bool m.rap, .bool m.acc, .int .i64 m.again, .slice Ao m.opts.length co], .int .i64 cut, .int .i64 kind] w fun e w' => e = .returned (.bool true) ∧ Below w.heap.size w w' := by
  have hu26 := Try.underlying26
  have hi26 : (Try.prog.info? 26).map (·.size) = some 10 := by kernel_rfl
  have HAI := Aside0.mk hai
  have HCI := Aside0.mk hci
  have HAO := Aside0.mk hao
  have HCO := Aside0.mk hco
  have HAW := Aside0.mk haw
  have HEN := Aside0.mk hen
  clear hai hci hao hco haw hen
  have HSZ := Aside0.mk hsz
  have HCU := Aside0.mk hc
  have HDE := Aside0.mk hde
  clear hsz hc hde
  have HC4 := Aside0.mk hc4
  clear hc4
  have HP := Aside0.mk hp
  clear hp
  have HK := Aside0.mk hk
  clear hk
  go_enter Try.func8, Try.ntmps8
  go_upto_region 1 with fail
  have BK := Aside0.mk (blk_new w (.cells #[.int .i64 m.ty, .int .u32 m.xid, .string m.cl, .string m.sv, .slice Ai m.ias.length ci, .int .i64 m.code, .bool m.rap, .bool m.acc, .int .i64 m.again, .slice Ao m.opts.length co] 26))
  have HB := Aside0.mk (below_alloc (Below.refl _ w) (.cells #[.int .i64 m.ty, .int .u32 m.xid, .string m.cl, .string m.sv, .slice Ai m.ias.length ci, .int .i64 m.code, .bool m.rap, .bool m.acc, .int .i64 m.again, .slice Ao m.opts.length co] 26))
  generalize w.alloc (.cells #[.int .i64 m.ty, .int .u32 m.xid, .string m.cl, .string m.sv, .slice Ai m.ias.length ci, .int .i64 m.code, .bool m.rap, .bool m.acc, .int .i64 m.again, .slice Ao m.opts.length co] 26) = w1 at BK HB ⊢
  generalize w.heap.size = gb at BK ⊢
  go_upto_region 4 with (first | (go_at_call 9; refine (tenancylaw16_awake.calls 30 true _ HAW.out).mono ?_; rintro e wb ⟨rfl, hb⟩; have BKb := Aside0.mk (blk_below BK.out hb); have HBb := Aside0.mk (below_step HB.out hb); clear hb) | ((with_reducible refine gate_dst (N := 17) rfl ?_); refine XBox.loadL_ 17 rfl rfl 26 rfl gb rfl _ BKb.out hu26 rfl hi26 ?_; simp only [Act.put, List.setIfInBounds_toArray, List.set_cons_zero, List.set_cons_succ]) | (go_at_call 13; refine (wire6_Encode.calls k m.ty m.xid m.cl m.sv Ai ci m.ias m.code m.rap m.acc m.again Ao co m.opts es 0 _ (Kd.C_below HAI.out HBb.out) HCI.out (Kd.C_below HAO.out HBb.out) HCO.out HEN.out).mono ?_; rintro e wc ⟨rfl, hb⟩; have HBc := Aside0.mk (below_step HBb.out hb); clear hb))
  clear BK BKb HB HBb
  go_upto_region 6 with fail
  have hcu := HCU.out.2
  have hz1 : ((es.size : Int) = 0) = False := eq_false (by have := HSZ.out.1; omega)
  have hz2 : (es = ByteArray.empty) = False := eq_false (fun h => by have := HSZ.out.1; rw [h] at this; exact absurd this (by decide))
  have hzw : IntKind.u64.wrap (es.size : Int) = (es.size : Int) := by rw [IntKind.wrap_u64]; have := HSZ.out.2; omega
  have hcw : wrap64 (c : Int) = (c : Int) := by have := HCU.out.1; have := HSZ.out.2; unfold wrap64; omega
  have hcs : (c ≤ es.size) = True := eq_true (by have := HCU.out.1; omega)
  go_upto_region 7 with fail
  rw [hcw]
  clear hcu hz1 hz2 hzw hcw
  go_upto_region 8 with (go_at_call 17; refine (wire6_Decode.calls k (es.extract 0 c) md 3 _ HDE.out).mono ?_; rintro e wd ⟨vi, vo, rfl, RI, RO, hb⟩; obtain ⟨Aj, cj, rfl⟩ := Kd.R_slice RI; obtain ⟨Ap, cp, rfl⟩ := Kd.R_slice RO; clear RI RO; dsimp only [Ms.row]; have HBd := Aside0.mk (below_step HBc.out hb); clear hb)
  clear hcs HBc
  have BN := Aside0.mk (blk_new wd (.cells #[.int .i64 md.ty, .int .u32 md.xid, .string md.cl, .string md.sv, .slice Aj md.ias.length cj, .int .i64 md.code, .bool md.rap, .bool md.acc, .int .i64 md.again, .slice Ap md.opts.length cp] 26))
  have HBe := Aside0.mk (below_alloc HBd.out (.cells #[.int .i64 md.ty, .int .u32 md.xid, .string md.cl, .string md.sv, .slice Aj md.ias.length cj, .int .i64 md.code, .bool md.rap, .bool md.acc, .int .i64 md.again, .slice Ap md.opts.length cp] 26))
  clear HBd
  generalize wd.alloc (.cells #[.int .i64 md.ty, .int .u32 md.xid, .string md.cl, .string md.sv, .slice Aj md.ias.length cj, .int .i64 md.code, .bool md.rap, .bool md.acc, .int .i64 md.again, .slice Ap md.opts.length cp] 26) = we at BN HBe ⊢
  generalize wd.heap.size = gn at BN ⊢
  have hc4 : ¬ (c : Int) < 4 := by have := HC4.out; omega
  go_upto_region 10 with fail
  have hc5 : (4 ≤ c) = True := eq_true HC4.out
  have hc6 : ((4 : Int) ≤ (c : Int)) = True := eq_true (by have := HC4.out; omega)
  have hcs : (c ≤ es.size) = True := eq_true (by have := HCU.out.1; omega)
  clear hc4
  go_upto_region 11 with (go_at_call 19; refine (opt6_Parse.calls k (es.extract 4 c) l 3 _ HP.out).mono ?_; rintro e wp ⟨v0, rfl, RL, hb⟩; obtain ⟨Al, cl, rfl⟩ := Kd.R_slice RL; clear RL; have BN2 := Aside0.mk (blk_below BN.out hb); have HBp := Aside0.mk (below_step HBe.out hb); clear hb)
  clear BN HBe hc5 hc6 hcs
  go_upto_region 15 with fail
  clear BN2
  go_upto_region 16 with fail
  generalize kind % 256 = b at HK ⊢
  have hk1 := HK.out.1
  have hk2 := HK.out.2
  go_wp2
  go_ret
  exact ⟨rfl, by first | exact HBp.out | exact below_drew1 HBp.out | exact pw_below_drewN HBp.out _⟩
set_option maxHeartbeats 8000000 in
set_option maxRecDepth 100000 in
theorem w6short_none (k : Nat) (m : Ms) (Ai Ao : Option Addr) (ci co : Nat) (cut kind : Int) (es : ByteArray) (w : World) (hai : Kd.C k51 w Ai m.ias.length m.ias) (hci : m.ias.length ≤ ci) (hao : Kd.C k42 w Ao m.opts.length m.opts) (hco : m.opts.length ≤ co)
    (haw : tenancylaw16_awake.f 30 = some true) (hen : wire6_Encode.f k m.ty m.xid m.cl m.sv m.ias m.code m.rap m.acc m.again m.opts = some (es, 0))
    (hsz : 1 ≤ es.size ∧ es.size ≤ 65507) (c : Nat) (hc : c < es.size ∧ (IntKind.u64.wrap cut).tmod (es.size : Int) = (c : Int)) (md : Ms) (hde : wire6_Decode.f k (es.extract 0 c) = some (md, 3)) (hc4 : 4 ≤ c) (l : List S42) (hp : opt6_Parse.f k (es.extract 4 c) = some (l, 3)) (hk : ¬ 1 ≤ kind % 256) (mz : Ms) (hz : wire6_Decode.f k (strOfNums [kind % 256] ++ es.extract 1 es.size) = some (mz, 141)):
    Calls Try.prog 8 #[.agg #[.int .i64 m.ty, .int .u32 m.xid, .string m.cl, .string m.sv, .slice Ai m.ias.length ci, .int .i64 m.code, .bool m.rap, .bool m.acc, .int .i64 m.again, .slice Ao m.opts.length co], .int .i64 cut, .int .i64 kind] w fun e w' => e = .returned (.bool true) ∧ Below w.heap.size w w' := by
  have hu26 := Try.underlying26
  have hi26 : (Try.prog.info? 26).map (·.size) = some 10 := by kernel_rfl
  have HAI := Aside0.mk hai
  have HCI := Aside0.mk hci
  have HAO := Aside0.mk hao
  have HCO := Aside0.mk hco
  have HAW := Aside0.mk haw
  have HEN := Aside0.mk hen
  clear hai hci hao hco haw hen
  have HSZ := Aside0.mk hsz
  have HCU := Aside0.mk hc
  have HDE := Aside0.mk hde
  clear hsz hc hde
  have HC4 := Aside0.mk hc4
  clear hc4
  have HP := Aside0.mk hp
  clear hp
  have HK := Aside0.mk hk
  clear hk
  have HZ := Aside0.mk hz
  clear hz
  go_enter Try.func8, Try.ntmps8
  go_upto_region 1 with fail
  have BK := Aside0.mk (blk_new w (.cells #[.int .i64 m.ty, .int .u32 m.xid, .string m.cl, .string m.sv, .slice Ai m.ias.length ci, .int .i64 m.code, .bool m.rap, .bool m.acc, .int .i64 m.again, .slice Ao m.opts.length co] 26))
  have HB := Aside0.mk (below_alloc (Below.refl _ w) (.cells #[.int .i64 m.ty, .int .u32 m.xid, .string m.cl, .string m.sv, .slice Ai m.ias.length ci, .int .i64 m.code, .bool m.rap, .bool m.acc, .int .i64 m.again, .slice Ao m.opts.length co] 26))
  generalize w.alloc (.cells #[.int .i64 m.ty, .int .u32 m.xid, .string m.cl, .string m.sv, .slice Ai m.ias.length ci, .int .i64 m.code, .bool m.rap, .bool m.acc, .int .i64 m.again, .slice Ao m.opts.length co] 26) = w1 at BK HB ⊢
  generalize w.heap.size = gb at BK ⊢
  go_upto_region 4 with (first | (go_at_call 9; refine (tenancylaw16_awake.calls 30 true _ HAW.out).mono ?_; rintro e wb ⟨rfl, hb⟩; have BKb := Aside0.mk (blk_below BK.out hb); have HBb := Aside0.mk (below_step HB.out hb); clear hb) | ((with_reducible refine gate_dst (N := 17) rfl ?_); refine XBox.loadL_ 17 rfl rfl 26 rfl gb rfl _ BKb.out hu26 rfl hi26 ?_; simp only [Act.put, List.setIfInBounds_toArray, List.set_cons_zero, List.set_cons_succ]) | (go_at_call 13; refine (wire6_Encode.calls k m.ty m.xid m.cl m.sv Ai ci m.ias m.code m.rap m.acc m.again Ao co m.opts es 0 _ (Kd.C_below HAI.out HBb.out) HCI.out (Kd.C_below HAO.out HBb.out) HCO.out HEN.out).mono ?_; rintro e wc ⟨rfl, hb⟩; have HBc := Aside0.mk (below_step HBb.out hb); clear hb))
  clear BK BKb HB HBb
  go_upto_region 6 with fail
  have hcu := HCU.out.2
  have hz1 : ((es.size : Int) = 0) = False := eq_false (by have := HSZ.out.1; omega)
  have hz2 : (es = ByteArray.empty) = False := eq_false (fun h => by have := HSZ.out.1; rw [h] at this; exact absurd this (by decide))
  have hzw : IntKind.u64.wrap (es.size : Int) = (es.size : Int) := by rw [IntKind.wrap_u64]; have := HSZ.out.2; omega
  have hcw : wrap64 (c : Int) = (c : Int) := by have := HCU.out.1; have := HSZ.out.2; unfold wrap64; omega
  have hcs : (c ≤ es.size) = True := eq_true (by have := HCU.out.1; omega)
  go_upto_region 7 with fail
  rw [hcw]
  clear hcu hz1 hz2 hzw hcw
  go_upto_region 8 with (go_at_call 17; refine (wire6_Decode.calls k (es.extract 0 c) md 3 _ HDE.out).mono ?_; rintro e wd ⟨vi, vo, rfl, RI, RO, hb⟩; obtain ⟨Aj, cj, rfl⟩ := Kd.R_slice RI; obtain ⟨Ap, cp, rfl⟩ := Kd.R_slice RO; clear RI RO; dsimp only [Ms.row]; have HBd := Aside0.mk (below_step HBc.out hb); clear hb)
  clear hcs HBc
  have BN := Aside0.mk (blk_new wd (.cells #[.int .i64 md.ty, .int .u32 md.xid, .string md.cl, .string md.sv, .slice Aj md.ias.length cj, .int .i64 md.code, .bool md.rap, .bool md.acc, .int .i64 md.again, .slice Ap md.opts.length cp] 26))
  have HBe := Aside0.mk (below_alloc HBd.out (.cells #[.int .i64 md.ty, .int .u32 md.xid, .string md.cl, .string md.sv, .slice Aj md.ias.length cj, .int .i64 md.code, .bool md.rap, .bool md.acc, .int .i64 md.again, .slice Ap md.opts.length cp] 26))
  clear HBd
  generalize wd.alloc (.cells #[.int .i64 md.ty, .int .u32 md.xid, .string md.cl, .string md.sv, .slice Aj md.ias.length cj, .int .i64 md.code, .bool md.rap, .bool md.acc, .int .i64 md.again, .slice Ap md.opts.length cp] 26) = we at BN HBe ⊢
  generalize wd.heap.size = gn at BN ⊢
  have hc4 : ¬ (c : Int) < 4 := by have := HC4.out; omega
  go_upto_region 10 with fail
  have hc5 : (4 ≤ c) = True := eq_true HC4.out
  have hc6 : ((4 : Int) ≤ (c : Int)) = True := eq_true (by have := HC4.out; omega)
  have hcs : (c ≤ es.size) = True := eq_true (by have := HCU.out.1; omega)
  clear hc4
  go_upto_region 11 with (go_at_call 19; refine (opt6_Parse.calls k (es.extract 4 c) l 3 _ HP.out).mono ?_; rintro e wp ⟨v0, rfl, RL, hb⟩; obtain ⟨Al, cl, rfl⟩ := Kd.R_slice RL; clear RL; have BN2 := Aside0.mk (blk_below BN.out hb); have HBp := Aside0.mk (below_step HBe.out hb); clear hb)
  clear BN HBe hc5 hc6 hcs
  go_upto_region 15 with fail
  clear BN2
  go_upto_region 16 with fail
  generalize kind % 256 = b at HK HZ ⊢
  have hk1 := HK.out
  go_upto_region 18 with fail
  clear hk1
  refine w6short18 _ rfl _ _ _ _ (by kernel_rfl) k es b mz 141 rfl rfl HZ.out HSZ.out ?_
  intro u W hb
  have HBq := Aside0.mk (below_step HBp.out hb)
  clear hb HBp
  simp only [XReg.fills, List.foldl_cons, List.foldl_nil, Act.put, List.setIfInBounds_toArray, List.set_cons_zero, List.set_cons_succ]
  go_wp2
  go_ret
  exact ⟨rfl, by first | exact HBq.out | exact below_drew1 HBq.out | exact pw_below_drewN HBq.out _⟩
set_option maxHeartbeats 8000000 in
set_option maxRecDepth 100000 in
theorem w6short_far (k : Nat) (m : Ms) (Ai Ao : Option Addr) (ci co : Nat) (cut kind : Int) (es : ByteArray) (w : World) (hai : Kd.C k51 w Ai m.ias.length m.ias) (hci : m.ias.length ≤ ci) (hao : Kd.C k42 w Ao m.opts.length m.opts) (hco : m.opts.length ≤ co)
    (haw : tenancylaw16_awake.f 30 = some true) (hen : wire6_Encode.f k m.ty m.xid m.cl m.sv m.ias m.code m.rap m.acc m.again m.opts = some (es, 0))
    (hsz : 1 ≤ es.size ∧ es.size ≤ 65507) (c : Nat) (hc : c < es.size ∧ (IntKind.u64.wrap cut).tmod (es.size : Int) = (c : Int)) (md : Ms) (hde : wire6_Decode.f k (es.extract 0 c) = some (md, 3)) (hc4 : 4 ≤ c) (l : List S42) (hp : opt6_Parse.f k (es.extract 4 c) = some (l, 3)) (hk : 1 ≤ kind % 256 ∧ ¬ kind % 256 ≤ 11) (mz : Ms) (hz : wire6_Decode.f k (strOfNums [kind % 256] ++ es.extract 1 es.size) = some (mz, 141)):
    Calls Try.prog 8 #[.agg #[.int .i64 m.ty, .int .u32 m.xid, .string m.cl, .string m.sv, .slice Ai m.ias.length ci, .int .i64 m.code, .bool m.rap, .bool m.acc, .int .i64 m.again, .slice Ao m.opts.length co], .int .i64 cut, .int .i64 kind] w fun e w' => e = .returned (.bool true) ∧ Below w.heap.size w w' := by
  have hu26 := Try.underlying26
  have hi26 : (Try.prog.info? 26).map (·.size) = some 10 := by kernel_rfl
  have HAI := Aside0.mk hai
  have HCI := Aside0.mk hci
  have HAO := Aside0.mk hao
  have HCO := Aside0.mk hco
  have HAW := Aside0.mk haw
  have HEN := Aside0.mk hen
  clear hai hci hao hco haw hen
  have HSZ := Aside0.mk hsz
  have HCU := Aside0.mk hc
  have HDE := Aside0.mk hde
  clear hsz hc hde
  have HC4 := Aside0.mk hc4
  clear hc4
  have HP := Aside0.mk hp
  clear hp
  have HK := Aside0.mk hk
  clear hk
  have HZ := Aside0.mk hz
  clear hz
  go_enter Try.func8, Try.ntmps8
  go_upto_region 1 with fail
  have BK := Aside0.mk (blk_new w (.cells #[.int .i64 m.ty, .int .u32 m.xid, .string m.cl, .string m.sv, .slice Ai m.ias.length ci, .int .i64 m.code, .bool m.rap, .bool m.acc, .int .i64 m.again, .slice Ao m.opts.length co] 26))
  have HB := Aside0.mk (below_alloc (Below.refl _ w) (.cells #[.int .i64 m.ty, .int .u32 m.xid, .string m.cl, .string m.sv, .slice Ai m.ias.length ci, .int .i64 m.code, .bool m.rap, .bool m.acc, .int .i64 m.again, .slice Ao m.opts.length co] 26))
  generalize w.alloc (.cells #[.int .i64 m.ty, .int .u32 m.xid, .string m.cl, .string m.sv, .slice Ai m.ias.length ci, .int .i64 m.code, .bool m.rap, .bool m.acc, .int .i64 m.again, .slice Ao m.opts.length co] 26) = w1 at BK HB ⊢
  generalize w.heap.size = gb at BK ⊢
  go_upto_region 4 with (first | (go_at_call 9; refine (tenancylaw16_awake.calls 30 true _ HAW.out).mono ?_; rintro e wb ⟨rfl, hb⟩; have BKb := Aside0.mk (blk_below BK.out hb); have HBb := Aside0.mk (below_step HB.out hb); clear hb) | ((with_reducible refine gate_dst (N := 17) rfl ?_); refine XBox.loadL_ 17 rfl rfl 26 rfl gb rfl _ BKb.out hu26 rfl hi26 ?_; simp only [Act.put, List.setIfInBounds_toArray, List.set_cons_zero, List.set_cons_succ]) | (go_at_call 13; refine (wire6_Encode.calls k m.ty m.xid m.cl m.sv Ai ci m.ias m.code m.rap m.acc m.again Ao co m.opts es 0 _ (Kd.C_below HAI.out HBb.out) HCI.out (Kd.C_below HAO.out HBb.out) HCO.out HEN.out).mono ?_; rintro e wc ⟨rfl, hb⟩; have HBc := Aside0.mk (below_step HBb.out hb); clear hb))
  clear BK BKb HB HBb
  go_upto_region 6 with fail
  have hcu := HCU.out.2
  have hz1 : ((es.size : Int) = 0) = False := eq_false (by have := HSZ.out.1; omega)
  have hz2 : (es = ByteArray.empty) = False := eq_false (fun h => by have := HSZ.out.1; rw [h] at this; exact absurd this (by decide))
  have hzw : IntKind.u64.wrap (es.size : Int) = (es.size : Int) := by rw [IntKind.wrap_u64]; have := HSZ.out.2; omega
  have hcw : wrap64 (c : Int) = (c : Int) := by have := HCU.out.1; have := HSZ.out.2; unfold wrap64; omega
  have hcs : (c ≤ es.size) = True := eq_true (by have := HCU.out.1; omega)
  go_upto_region 7 with fail
  rw [hcw]
  clear hcu hz1 hz2 hzw hcw
  go_upto_region 8 with (go_at_call 17; refine (wire6_Decode.calls k (es.extract 0 c) md 3 _ HDE.out).mono ?_; rintro e wd ⟨vi, vo, rfl, RI, RO, hb⟩; obtain ⟨Aj, cj, rfl⟩ := Kd.R_slice RI; obtain ⟨Ap, cp, rfl⟩ := Kd.R_slice RO; clear RI RO; dsimp only [Ms.row]; have HBd := Aside0.mk (below_step HBc.out hb); clear hb)
  clear hcs HBc
  have BN := Aside0.mk (blk_new wd (.cells #[.int .i64 md.ty, .int .u32 md.xid, .string md.cl, .string md.sv, .slice Aj md.ias.length cj, .int .i64 md.code, .bool md.rap, .bool md.acc, .int .i64 md.again, .slice Ap md.opts.length cp] 26))
  have HBe := Aside0.mk (below_alloc HBd.out (.cells #[.int .i64 md.ty, .int .u32 md.xid, .string md.cl, .string md.sv, .slice Aj md.ias.length cj, .int .i64 md.code, .bool md.rap, .bool md.acc, .int .i64 md.again, .slice Ap md.opts.length cp] 26))
  clear HBd
  generalize wd.alloc (.cells #[.int .i64 md.ty, .int .u32 md.xid, .string md.cl, .string md.sv, .slice Aj md.ias.length cj, .int .i64 md.code, .bool md.rap, .bool md.acc, .int .i64 md.again, .slice Ap md.opts.length cp] 26) = we at BN HBe ⊢
  generalize wd.heap.size = gn at BN ⊢
  have hc4 : ¬ (c : Int) < 4 := by have := HC4.out; omega
  go_upto_region 10 with fail
  have hc5 : (4 ≤ c) = True := eq_true HC4.out
  have hc6 : ((4 : Int) ≤ (c : Int)) = True := eq_true (by have := HC4.out; omega)
  have hcs : (c ≤ es.size) = True := eq_true (by have := HCU.out.1; omega)
  clear hc4
  go_upto_region 11 with (go_at_call 19; refine (opt6_Parse.calls k (es.extract 4 c) l 3 _ HP.out).mono ?_; rintro e wp ⟨v0, rfl, RL, hb⟩; obtain ⟨Al, cl, rfl⟩ := Kd.R_slice RL; clear RL; have BN2 := Aside0.mk (blk_below BN.out hb); have HBp := Aside0.mk (below_step HBe.out hb); clear hb)
  clear BN HBe hc5 hc6 hcs
  go_upto_region 15 with fail
  clear BN2
  go_upto_region 16 with fail
  generalize kind % 256 = b at HK HZ ⊢
  have hk1 := HK.out.1
  have hk2 := HK.out.2
  go_upto_region 18 with fail
  clear hk1 hk2
  refine w6short18 _ rfl _ _ _ _ (by kernel_rfl) k es b mz 141 rfl rfl HZ.out HSZ.out ?_
  intro u W hb
  have HBq := Aside0.mk (below_step HBp.out hb)
  clear hb HBp
  simp only [XReg.fills, List.foldl_cons, List.foldl_nil, Act.put, List.setIfInBounds_toArray, List.set_cons_zero, List.set_cons_succ]
  go_wp2
  go_ret
  exact ⟨rfl, by first | exact HBq.out | exact below_drew1 HBq.out | exact pw_below_drewN HBq.out _⟩

end Go.Proofs.Ythadapbekmmgpaa.X
