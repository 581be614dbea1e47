/- no condition. -/
import Derived.Test.YthadapbekmmgpaaEX0
import Derived.Test.YthadapbekmmgpaaEX8
import Derived.Test.YthadapbekmmgpaaEXCv
import Derived.Test.YthadapbekmmgpaaEXE3
import Derived.Test.YthadapbekmmgpaaEXE4
import Derived.Test.YthadapbekmmgpaaEXE5
import Derived.Test.YthadapbekmmgpaaEXE7
import Derived.Test.YthadapbekmmgpaaEXIn
import Derived.Test.YthadapbekmmgpaaEXOrow
import Derived.Test.YthadapbekmmgpaaEXReg
import Derived.Test.YthadapbekmmgpaaEXRegF
import Derived.Test.YthadapbekmmgpaaEXRegG
import Derived.Test.YthadapbekmmgpaaEXRegP
import Derived.Outline
import Derived.Lib.Hide
import Derived.Laws.IdiomCopy
import Derived.Lib.SliceRun
import Derived.WalkSpells
namespace Go.Proofs.Ythadapbekmmgpaa.X
open Go.RowKit Go.Proofs.YthadapbekmmgpaaW.PrintWords Go.Proofs.YthadapbekmmgpaaW.PrintLast Go.Proofs.YthadapbekmmgpaaW.PrintMore
set_option linter.unusedVariables false
set_option linter.unusedSimpArgs false
theorem c_zero {α : Type} (d : Kd α) (w : World) (A : Option Addr) : d.C w A ([] : List α).length [] := ⟨rfl, by simp, fun h => absurd h (Nat.lt_irrefl 0)⟩
def w6enc1V (gb : Nat) (m : Ms) : Nat → Value → World → Prop
  | 0, v, _ => v = .bool true
  | 1, v, _ => v = .bool false
  | 2, v, _ => v = .bool false
  | 3, v, _ => v = .pointer (some ⟨gb, 0, none⟩)
  | 4, v, _ => v = .int .i64 m.ty
  | 5, v, _ => v = .agg #[.int .i64 m.ty, .int .u32 0, .string (⟨#[]⟩ : ByteArray), .string (⟨#[]⟩ : ByteArray), .slice none 0 0, .int .i64 (-1), .bool false, .bool false, .int .i64 0, .slice none 0 0]
  | 6, v, _ => v = .pointer (some ⟨gb, 0, none⟩)
  | 7, v, _ => v = .int .i64 m.ty
  | 8, v, _ => ∃ (A : Option Addr) (c : Nat) (B : Option Addr) (d : Nat), v = .agg #[.int .i64 m.ty, .int .u32 0, .string (⟨#[]⟩ : ByteArray), .string (⟨#[]⟩ : ByteArray), .slice A 0 c, .int .i64 (-1), .bool false, .bool false, .int .i64 0, .slice B 0 d] ∧ True
  | 9, v, _ => v = .bool true
  | 10, v, _ => v = .bool false
  | _, _, _ => True
set_option maxHeartbeats 4000000 in
set_option maxRecDepth 100000 in
theorem w6enc1 (ops : Array Oper) (hops : ops = opsOf Try.f3 1) (id : Nat) (Q : Exit → Act → World → Prop) (act : Act) (w : World) (hsz0 : act.tmps.size = 44) (gb : Nat) (m : Ms) (Ai Ao : Option Addr) (ci co : Nat)
    (h1 : act.eval (.tmp 1) = .pointer (some ⟨gb, 0, none⟩)) (bk : w.heap[gb]? = some (.cells #[.int .i64 m.ty, .int .u32 m.xid, .string m.cl, .string m.sv, .slice Ai m.ias.length ci, .int .i64 m.code, .bool m.rap, .bool m.acc, .int .i64 m.again, .slice Ao m.opts.length co] 26 (0, 0)))
    (hK : ∀ (u : Tmp → Value) (W : World), Below w.heap.size w W → Q .normal ((XReg.fills u [7, 8, 9, 10, 11, 12, 13, 14, 15, 16, 17] act).put (some 18) (.bool false)) W) :
    (Code.region id ops true).wp Try.prog Q act w := by
  subst hops
  refine (wpIn_wide (n := 9)).1 (XReg.region_runG (by kernel_rfl) [(2, false)] 11 (by rw [hsz0]; kernel_rfl) (w6enc1V gb m)
    (fun w' => Below w.heap.size w w') (by intro q hq v w' h; simp only [List.mem_cons, List.not_mem_nil, or_false] at hq; rcases hq with rfl <;> exact h) ?_ (fun w1 w2 h1 h2 => below_step h1 h2) ((Below.refl _ w).drew) ?_ ?_)
  · intro i v w1 w2 hv hb
    match i, hv with
    | 0, hv | 1, hv | 2, hv | 3, hv | 4, hv | 5, hv | 6, hv | 7, hv | 8, hv | 9, hv | 10, hv => exact hv
    | _ + 11, _ => trivial
  · intro i o a' w' hi ho hB hdf hr hd
    have qk := blk_below bk hB
    have hcases : i = 0 ∨ i = 1 ∨ i = 2 ∨ i = 3 ∨ i = 4 ∨ i = 5 ∨ i = 6 ∨ i = 7 ∨ i = 8 ∨ i = 9 ∨ i = 10 := by omega
    rcases hcases with rfl | rfl | rfl | rfl | rfl | rfl | rfl | rfl | rfl | rfl | rfl
    · obtain ⟨hop, hdst⟩ := XReg.op_is (x := .call { callee := .value (.func 9), args := #[], argTypes := #[] }) (d := some 7) ho (by kernel_rfl)
      refine XReg.call_ (ro := none) Try.func9 (by kernel_rfl) rfl #[] hop (by simp) ?_
      refine (tenancylaw16_awake.calls 30 true w' tenancylaw16_awake.yes).mono ?_
      rintro e w2 ⟨rfl, hb2⟩
      exact ⟨_, rfl, _, rfl, hb2, rfl⟩
    · obtain ⟨hop, hdst⟩ := XReg.op_is (x := .unOp .not 4 (.tmp 7)) (d := some 8) ho (by kernel_rfl)
      have e0 : a'.eval (.tmp 7) = .bool true := hd 0 7 (by kernel_rfl) (by omega)
      have hu0 := Try.underlying4
      refine XReg.val_ (v := .bool false) (w1 := w') (by rw [hop]; intro c h; cases h) (by simp [Oper.about, hop]) ?_ ⟨_, rfl, Below.refl _ _, rfl⟩
      unfold execOp
      rw [hop]
      clear hr hd hB
      generalize a'.eval = ρ at e0 ⊢
      go_simp
    · obtain ⟨hop, hdst⟩ := XReg.op_is (x := .move (.tmp 8)) (d := some 9) ho (by kernel_rfl)
      have e0 : a'.eval (.tmp 8) = .bool false := hd 1 8 (by kernel_rfl) (by omega)
      refine XReg.val_ (v := .bool false) (w1 := w') (by rw [hop]; intro c h; cases h) (by simp [Oper.about, hop]) ?_ ⟨_, rfl, Below.refl _ _, rfl⟩
      unfold execOp
      rw [hop]
      clear hr hd hB
      generalize a'.eval = ρ at e0 ⊢
      go_simp
    · obtain ⟨hop, hdst⟩ := XReg.op_is (x := .fieldAddr 26 (.tmp 1) 0) (d := some 10) ho (by kernel_rfl)
      have e0 := (hr 1 (by kernel_rfl)).trans h1
      have hu0 := Try.underlying26
      refine XReg.val_ (v := .pointer (some ⟨gb, 0, none⟩)) (w1 := w') (by rw [hop]; intro c h; cases h) (by simp [Oper.about, hop]) ?_ ⟨_, rfl, Below.refl _ _, rfl⟩
      unfold execOp
      rw [hop]
      clear hr hd hB
      generalize a'.eval = ρ at e0 ⊢
      go_simp
    · obtain ⟨hop, hdst⟩ := XReg.op_is (x := .load 3 (.tmp 10)) (d := some 11) ho (by kernel_rfl)
      have e0 : a'.eval (.tmp 10) = .pointer (some ⟨gb, 0, none⟩) := hd 3 10 (by kernel_rfl) (by omega)
      have hc : w'.cell? ⟨gb, 0, none⟩ = some (.int .i64 m.ty) := (blk_cell qk 0).trans rfl
      have hu0 := Try.underlying3
      refine XReg.val_ (v := .int .i64 m.ty) (w1 := w') (by rw [hop]; intro c h; cases h) (by simp [Oper.about, hop]) ?_ ⟨_, rfl, Below.refl _ _, rfl⟩
      unfold execOp
      rw [hop]
      clear hr hd hB
      generalize a'.eval = ρ at e0 ⊢
      go_simp
    · obtain ⟨hop, hdst⟩ := XReg.op_is (x := .call { callee := .value (.func 11), args := #[.tmp 11], argTypes := #[3] }) (d := some 12) ho (by kernel_rfl)
      have e0 : a'.eval (.tmp 11) = .int .i64 m.ty := hd 4 11 (by kernel_rfl) (by omega)
      refine XReg.call_ (ro := none) Try.func11 (by kernel_rfl) rfl #[.int .i64 m.ty] hop (by simp [e0]) ?_
      refine (w6blank_calls m.ty w').mono ?_
      rintro e w2 ⟨rfl, hb2⟩
      exact ⟨_, rfl, _, rfl, hb2, rfl⟩
    · obtain ⟨hop, hdst⟩ := XReg.op_is (x := .fieldAddr 26 (.tmp 1) 0) (d := some 13) ho (by kernel_rfl)
      have e0 := (hr 1 (by kernel_rfl)).trans h1
      have hu0 := Try.underlying26
      refine XReg.val_ (v := .pointer (some ⟨gb, 0, none⟩)) (w1 := w') (by rw [hop]; intro c h; cases h) (by simp [Oper.about, hop]) ?_ ⟨_, rfl, Below.refl _ _, rfl⟩
      unfold execOp
      rw [hop]
      clear hr hd hB
      generalize a'.eval = ρ at e0 ⊢
      go_simp
    · obtain ⟨hop, hdst⟩ := XReg.op_is (x := .load 3 (.tmp 13)) (d := some 14) ho (by kernel_rfl)
      have e0 : a'.eval (.tmp 13) = .pointer (some ⟨gb, 0, none⟩) := hd 6 13 (by kernel_rfl) (by omega)
      have hc : w'.cell? ⟨gb, 0, none⟩ = some (.int .i64 m.ty) := (blk_cell qk 0).trans rfl
      have hu0 := Try.underlying3
      refine XReg.val_ (v := .int .i64 m.ty) (w1 := w') (by rw [hop]; intro c h; cases h) (by simp [Oper.about, hop]) ?_ ⟨_, rfl, Below.refl _ _, rfl⟩
      unfold execOp
      rw [hop]
      clear hr hd hB
      generalize a'.eval = ρ at e0 ⊢
      go_simp
    · obtain ⟨hop, hdst⟩ := XReg.op_is (x := .call { callee := .value (.func 12), args := #[.tmp 14], argTypes := #[3] }) (d := some 15) ho (by kernel_rfl)
      have e0 : a'.eval (.tmp 14) = .int .i64 m.ty := hd 7 14 (by kernel_rfl) (by omega)
      refine XReg.call_ (ro := none) Try.func12 (by kernel_rfl) rfl #[.int .i64 m.ty] hop (by simp [e0]) ?_
      refine (tenancyref16_Blank.calls m.ty _ _ _ _ _ _ _ _ _ _ w' rfl).mono ?_
      rintro e w2 ⟨v4, v9, rfl, hS, hR, hb2⟩
      obtain ⟨A, c, rfl, _, _⟩ := Kd.S_reads hS
      obtain ⟨B, d, rfl, _, _⟩ := Kd.R_reads hR
      exact ⟨_, rfl, _, rfl, hb2, A, c, B, d, rfl, trivial⟩
    · obtain ⟨hop, hdst⟩ := XReg.op_is (x := .call { callee := .value (.func 10), args := #[.tmp 12, .tmp 15], argTypes := #[26, 26] }) (d := some 16) ho (by kernel_rfl)
      have e0 : a'.eval (.tmp 12) = .agg #[.int .i64 m.ty, .int .u32 0, .string (⟨#[]⟩ : ByteArray), .string (⟨#[]⟩ : ByteArray), .slice none 0 0, .int .i64 (-1), .bool false, .bool false, .int .i64 0, .slice none 0 0] := hd 5 12 (by kernel_rfl) (by omega)
      obtain ⟨A, c, B, d, e1, _⟩ : ∃ (A : Option Addr) (c : Nat) (B : Option Addr) (d : Nat), a'.eval (.tmp 15) = .agg #[.int .i64 m.ty, .int .u32 0, .string (⟨#[]⟩ : ByteArray), .string (⟨#[]⟩ : ByteArray), .slice A 0 c, .int .i64 (-1), .bool false, .bool false, .int .i64 0, .slice B 0 d] ∧ True := hd 8 15 (by kernel_rfl) (by omega)
      refine XReg.call_ (ro := none) Try.func10 (by kernel_rfl) rfl #[.agg #[.int .i64 m.ty, .int .u32 0, .string (⟨#[]⟩ : ByteArray), .string (⟨#[]⟩ : ByteArray), .slice none 0 0, .int .i64 (-1), .bool false, .bool false, .int .i64 0, .slice none 0 0], .agg #[.int .i64 m.ty, .int .u32 0, .string (⟨#[]⟩ : ByteArray), .string (⟨#[]⟩ : ByteArray), .slice A 0 c, .int .i64 (-1), .bool false, .bool false, .int .i64 0, .slice B 0 d]] hop (by simp [e0, e1]) ?_
      refine (tenancylaw16_same.calls ⟨m.ty, 0, ⟨#[]⟩, ⟨#[]⟩, [], -1, false, false, 0, []⟩ none none A B 0 0 c d w' (Kd.C_nil _ _) (Kd.C_nil _ _) (c_zero _ _ A) (c_zero _ _ B)).mono ?_
      rintro e w2 ⟨rfl, hb2⟩
      exact ⟨_, rfl, _, rfl, hb2, rfl⟩
    · obtain ⟨hop, hdst⟩ := XReg.op_is (x := .unOp .not 4 (.tmp 16)) (d := some 17) ho (by kernel_rfl)
      have e0 : a'.eval (.tmp 16) = .bool true := hd 9 16 (by kernel_rfl) (by omega)
      have hu0 := Try.underlying4
      refine XReg.val_ (v := .bool false) (w1 := w') (by rw [hop]; intro c h; cases h) (by simp [Oper.about, hop]) ?_ ⟨_, rfl, Below.refl _ _, rfl⟩
      unfold execOp
      rw [hop]
      clear hr hd hB
      generalize a'.eval = ρ at e0 ⊢
      go_simp
  · intro o a' w' ho hB hdf hsz' hr hd
    have qk := blk_below bk hB
    have hfill := XReg.fill_eq [7, 8, 9, 10, 11, 12, 13, 14, 15, 16, 17] hsz' hdf (XReg.rest_of (ops := opsOf Try.f3 1) (m := 11) (by kernel_rfl) hr)
    obtain ⟨hop, hdst⟩ := XReg.op_is (x := .pick (.tmp 9) (.const (.bool true)) (.tmp 17)) (d := some 18) ho (by kernel_rfl)
    have e0 : a'.eval (.tmp 9) = .bool false := hd 2 9 (by kernel_rfl) (by omega)
    have e1 : a'.eval (.tmp 17) = .bool false := hd 10 17 (by kernel_rfl) (by omega)
    have k0 : a'.eval (.const (.bool true)) = .bool true := rfl
    refine XReg.val_ (v := .bool false) (w1 := w') (by rw [hop]; intro c h; cases h) (by simp [Oper.about, hop]) ?_ (by rw [hdst, hfill]; exact hK _ w' hB)
    unfold execOp
    rw [hop]
    clear hr hd hB hfill hK
    generalize a'.eval = ρ at e0 e1 k0 ⊢
    go_simp
def w6enc5V (es : ByteArray) (ee : Int) (so : Bool) (m : Ms) (Ai Ao : Option Addr) (ci co : Nat) : Nat → Value → World → Prop
  | 0, v, _ => v = .string es
  | 1, v, _ => v = .string es
  | 2, v, _ => v = .bool true
  | 3, v, _ => v = .bool true
  | 4, v, _ => v = .int .i64 ee
  | 5, v, _ => v = .int .i64 ee
  | 6, v, _ => v = .bool true
  | 7, v, _ => v = .bool true
  | 8, v, _ => v = .bool true
  | 9, v, _ => v = .agg #[.int .i64 m.ty, .int .u32 m.xid, .string m.cl, .string m.sv, .slice Ai m.ias.length ci, .int .i64 m.code, .bool m.rap, .bool m.acc, .int .i64 m.again, .slice Ao m.opts.length co]
  | 10, v, _ => v = .bool so
  | 11, v, _ => v = .agg #[.int .i64 m.ty, .int .u32 m.xid, .string m.cl, .string m.sv, .slice Ai m.ias.length ci, .int .i64 m.code, .bool m.rap, .bool m.acc, .int .i64 m.again, .slice Ao m.opts.length co]
  | 12, v, _ => v = .bool so
  | 13, v, _ => v = .bool true
  | 14, v, _ => v = .bool true
  | _, _, _ => True
set_option maxHeartbeats 4000000 in
set_option maxRecDepth 100000 in
theorem w6enc5 (ops : Array Oper) (hops : ops = opsOf Try.f3 5) (id : Nat) (Q : Exit → Act → World → Prop) (act : Act) (w : World) (hsz0 : act.tmps.size = 44) (k : Nat) (gb : Nat) (m : Ms) (Ai Ao : Option Addr) (ci co : Nat) (es : ByteArray) (ee : Int) (so : Bool)
    (h3 : act.eval (.tmp 3) = .string es) (h4 : act.eval (.tmp 4) = .int .i64 ee) (h5 : act.eval (.tmp 5) = .string es) (h6 : act.eval (.tmp 6) = .int .i64 ee) (h1 : act.eval (.tmp 1) = .pointer (some ⟨gb, 0, none⟩)) (bk : w.heap[gb]? = some (.cells #[.int .i64 m.ty, .int .u32 m.xid, .string m.cl, .string m.sv, .slice Ai m.ias.length ci, .int .i64 m.code, .bool m.rap, .bool m.acc, .int .i64 m.again, .slice Ao m.opts.length co] 26 (0, 0))) (hai : Kd.C k51 w Ai m.ias.length m.ias) (hci : m.ias.length ≤ ci) (hao : Kd.C k42 w Ao m.opts.length m.opts) (hco : m.opts.length ≤ co) (hso : wire6_Sound.f k m.ty m.xid m.cl m.sv m.ias m.code m.rap m.acc m.again m.opts = some so) (hrs : tenancyref16_Sound.f k m.ty m.xid m.cl m.sv m.ias m.code m.rap m.acc m.again m.opts = some so)
    (hK : ∀ (u : Tmp → Value) (W : World), Below w.heap.size w W → Q .normal ((XReg.fills u [29, 30, 31, 32, 33, 34, 35, 36, 37, 38, 39, 40, 41, 42, 43] act).put (some 2) (.bool true)) W) :
    (Code.region id ops true).wp Try.prog Q act w := by
  subst hops
  refine (wpIn_wide (n := 9)).1 (XReg.region_runG (by kernel_rfl) [(3, true), (8, true)] 15 (by rw [hsz0]; kernel_rfl) (w6enc5V es ee so m Ai Ao ci co)
    (fun w' => Below w.heap.size w w') (by intro q hq v w' h; simp only [List.mem_cons, List.not_mem_nil, or_false] at hq; rcases hq with rfl | rfl <;> exact h) ?_ (fun w1 w2 h1 h2 => below_step h1 h2) ((Below.refl _ w).drew) ?_ ?_)
  · intro i v w1 w2 hv hb
    match i, hv with
    | 0, hv | 1, hv | 2, hv | 3, hv | 4, hv | 5, hv | 6, hv | 7, hv | 8, hv | 9, hv | 10, hv | 11, hv | 12, hv | 13, hv | 14, hv => exact hv
    | _ + 15, _ => trivial
  · intro i o a' w' hi ho hB hdf hr hd
    have qk := blk_below bk hB
    have qai := Kd.C_below hai hB
    have qao := Kd.C_below hao hB
    have hcases : i = 0 ∨ i = 1 ∨ i = 2 ∨ i = 3 ∨ i = 4 ∨ i = 5 ∨ i = 6 ∨ i = 7 ∨ i = 8 ∨ i = 9 ∨ i = 10 ∨ i = 11 ∨ i = 12 ∨ i = 13 ∨ i = 14 := by omega
    rcases hcases with rfl | rfl | rfl | rfl | rfl | rfl | rfl | rfl | rfl | rfl | rfl | rfl | rfl | rfl | rfl
    · obtain ⟨hop, hdst⟩ := XReg.op_is (x := .move (.tmp 3)) (d := some 29) ho (by kernel_rfl)
      have e0 := (hr 3 (by kernel_rfl)).trans h3
      refine XReg.val_ (v := .string es) (w1 := w') (by rw [hop]; intro c h; cases h) (by simp [Oper.about, hop]) ?_ ⟨_, rfl, Below.refl _ _, rfl⟩
      unfold execOp
      rw [hop]
      clear hr hd hB
      generalize a'.eval = ρ at e0 ⊢
      go_simp
    · obtain ⟨hop, hdst⟩ := XReg.op_is (x := .move (.tmp 5)) (d := some 30) ho (by kernel_rfl)
      have e0 := (hr 5 (by kernel_rfl)).trans h5
      refine XReg.val_ (v := .string es) (w1 := w') (by rw [hop]; intro c h; cases h) (by simp [Oper.about, hop]) ?_ ⟨_, rfl, Below.refl _ _, rfl⟩
      unfold execOp
      rw [hop]
      clear hr hd hB
      generalize a'.eval = ρ at e0 ⊢
      go_simp
    · obtain ⟨hop, hdst⟩ := XReg.op_is (x := .binOp .eql 9 (.tmp 29) (.tmp 30) 9) (d := some 31) ho (by kernel_rfl)
      have e0 : a'.eval (.tmp 29) = .string es := hd 0 29 (by kernel_rfl) (by omega)
      have e1 : a'.eval (.tmp 30) = .string es := hd 1 30 (by kernel_rfl) (by omega)
      have hu0 := Try.underlying9
      refine XReg.val_ (v := .bool true) (w1 := w') (by rw [hop]; intro c h; cases h) (by simp [Oper.about, hop]) ?_ ⟨_, rfl, Below.refl _ _, rfl⟩
      unfold execOp
      rw [hop]
      clear hr hd hB
      clear qk qai qao
      generalize a'.eval = ρ at e0 e1 ⊢
      go_simp
    · obtain ⟨hop, hdst⟩ := XReg.op_is (x := .move (.tmp 31)) (d := some 32) ho (by kernel_rfl)
      have e0 : a'.eval (.tmp 31) = .bool true := hd 2 31 (by kernel_rfl) (by omega)
      refine XReg.val_ (v := .bool true) (w1 := w') (by rw [hop]; intro c h; cases h) (by simp [Oper.about, hop]) ?_ ⟨_, rfl, Below.refl _ _, rfl⟩
      unfold execOp
      rw [hop]
      clear hr hd hB
      clear qk qai qao
      generalize a'.eval = ρ at e0 ⊢
      go_simp
    · obtain ⟨hop, hdst⟩ := XReg.op_is (x := .move (.tmp 4)) (d := some 33) ho (by kernel_rfl)
      have e0 := (hr 4 (by kernel_rfl)).trans h4
      refine XReg.val_ (v := .int .i64 ee) (w1 := w') (by rw [hop]; intro c h; cases h) (by simp [Oper.about, hop]) ?_ ⟨_, rfl, Below.refl _ _, rfl⟩
      unfold execOp
      rw [hop]
      clear hr hd hB
      generalize a'.eval = ρ at e0 ⊢
      go_simp
    · obtain ⟨hop, hdst⟩ := XReg.op_is (x := .move (.tmp 6)) (d := some 34) ho (by kernel_rfl)
      have e0 := (hr 6 (by kernel_rfl)).trans h6
      refine XReg.val_ (v := .int .i64 ee) (w1 := w') (by rw [hop]; intro c h; cases h) (by simp [Oper.about, hop]) ?_ ⟨_, rfl, Below.refl _ _, rfl⟩
      unfold execOp
      rw [hop]
      clear hr hd hB
      generalize a'.eval = ρ at e0 ⊢
      go_simp
    · obtain ⟨hop, hdst⟩ := XReg.op_is (x := .binOp .eql 30 (.tmp 33) (.tmp 34) 30) (d := some 35) ho (by kernel_rfl)
      have e0 : a'.eval (.tmp 33) = .int .i64 ee := hd 4 33 (by kernel_rfl) (by omega)
      have e1 : a'.eval (.tmp 34) = .int .i64 ee := hd 5 34 (by kernel_rfl) (by omega)
      have hu0 := Try.underlying30
      refine XReg.val_ (v := .bool true) (w1 := w') (by rw [hop]; intro c h; cases h) (by simp [Oper.about, hop]) ?_ ⟨_, rfl, Below.refl _ _, rfl⟩
      unfold execOp
      rw [hop]
      clear hr hd hB
      clear qk qai qao
      generalize a'.eval = ρ at e0 e1 ⊢
      go_simp
    · obtain ⟨hop, hdst⟩ := XReg.op_is (x := .pick (.tmp 32) (.tmp 35) (.const (.bool false))) (d := some 36) ho (by kernel_rfl)
      have e0 : a'.eval (.tmp 32) = .bool true := hd 3 32 (by kernel_rfl) (by omega)
      have e1 : a'.eval (.tmp 35) = .bool true := hd 6 35 (by kernel_rfl) (by omega)
      have k0 : a'.eval (.const (.bool false)) = .bool false := rfl
      refine XReg.val_ (v := .bool true) (w1 := w') (by rw [hop]; intro c h; cases h) (by simp [Oper.about, hop]) ?_ ⟨_, rfl, Below.refl _ _, rfl⟩
      unfold execOp
      rw [hop]
      clear hr hd hB
      clear qk qai qao
      generalize a'.eval = ρ at e0 e1 k0 ⊢
      go_simp
    · obtain ⟨hop, hdst⟩ := XReg.op_is (x := .move (.tmp 36)) (d := some 37) ho (by kernel_rfl)
      have e0 : a'.eval (.tmp 36) = .bool true := hd 7 36 (by kernel_rfl) (by omega)
      refine XReg.val_ (v := .bool true) (w1 := w') (by rw [hop]; intro c h; cases h) (by simp [Oper.about, hop]) ?_ ⟨_, rfl, Below.refl _ _, rfl⟩
      unfold execOp
      rw [hop]
      clear hr hd hB
      clear qk qai qao
      generalize a'.eval = ρ at e0 ⊢
      go_simp
    · obtain ⟨hop, hdst⟩ := XReg.op_is (x := .load 26 (.tmp 1)) (d := some 38) ho (by kernel_rfl)
      have e0 := (hr 1 (by kernel_rfl)).trans h1
      have hu26 := Try.underlying26
      have hi26 : (Try.prog.info? 26).map (·.size) = some 10 := by kernel_rfl
      refine XReg.val_ (v := .agg #[.int .i64 m.ty, .int .u32 m.xid, .string m.cl, .string m.sv, .slice Ai m.ias.length ci, .int .i64 m.code, .bool m.rap, .bool m.acc, .int .i64 m.again, .slice Ao m.opts.length co]) (w1 := w') (by rw [hop]; intro c h; cases h) (by simp [Oper.about, hop]) ?_ ⟨_, rfl, Below.refl _ _, rfl⟩
      unfold execOp
      rw [hop]
      clear hr hd hB
      simp [e0, Instr.loadAt, Instr.sureAddr, run_loadVar_row w' gb 26 26 #[.int .i64 m.ty, .int .u32 m.xid, .string m.cl, .string m.sv, .slice Ai m.ias.length ci, .int .i64 m.code, .bool m.rap, .bool m.acc, .int .i64 m.again, .slice Ao m.opts.length co] (0, 0) _ qk hu26 rfl hi26, Result.andThen]
    · obtain ⟨hop, hdst⟩ := XReg.op_is (x := .call { callee := .value (.func 15), args := #[.tmp 38], argTypes := #[26] }) (d := some 39) ho (by kernel_rfl)
      have e0 : a'.eval (.tmp 38) = .agg #[.int .i64 m.ty, .int .u32 m.xid, .string m.cl, .string m.sv, .slice Ai m.ias.length ci, .int .i64 m.code, .bool m.rap, .bool m.acc, .int .i64 m.again, .slice Ao m.opts.length co] := hd 9 38 (by kernel_rfl) (by omega)
      refine XReg.call_ (ro := none) Try.func15 (by kernel_rfl) rfl #[.agg #[.int .i64 m.ty, .int .u32 m.xid, .string m.cl, .string m.sv, .slice Ai m.ias.length ci, .int .i64 m.code, .bool m.rap, .bool m.acc, .int .i64 m.again, .slice Ao m.opts.length co]] hop (by simp [e0]) ?_
      refine (wire6_Sound.calls k m.ty m.xid m.cl m.sv Ai ci m.ias m.code m.rap m.acc m.again Ao co m.opts so w' qai hci qao hco hso).mono ?_
      rintro e w2 ⟨rfl, hb2⟩
      exact ⟨_, rfl, _, rfl, hb2, rfl⟩
    · obtain ⟨hop, hdst⟩ := XReg.op_is (x := .load 26 (.tmp 1)) (d := some 40) ho (by kernel_rfl)
      have e0 := (hr 1 (by kernel_rfl)).trans h1
      have hu26 := Try.underlying26
      have hi26 : (Try.prog.info? 26).map (·.size) = some 10 := by kernel_rfl
      refine XReg.val_ (v := .agg #[.int .i64 m.ty, .int .u32 m.xid, .string m.cl, .string m.sv, .slice Ai m.ias.length ci, .int .i64 m.code, .bool m.rap, .bool m.acc, .int .i64 m.again, .slice Ao m.opts.length co]) (w1 := w') (by rw [hop]; intro c h; cases h) (by simp [Oper.about, hop]) ?_ ⟨_, rfl, Below.refl _ _, rfl⟩
      unfold execOp
      rw [hop]
      clear hr hd hB
      simp [e0, Instr.loadAt, Instr.sureAddr, run_loadVar_row w' gb 26 26 #[.int .i64 m.ty, .int .u32 m.xid, .string m.cl, .string m.sv, .slice Ai m.ias.length ci, .int .i64 m.code, .bool m.rap, .bool m.acc, .int .i64 m.again, .slice Ao m.opts.length co] (0, 0) _ qk hu26 rfl hi26, Result.andThen]
    · obtain ⟨hop, hdst⟩ := XReg.op_is (x := .call { callee := .value (.func 16), args := #[.tmp 40], argTypes := #[26] }) (d := some 41) ho (by kernel_rfl)
      have e0 : a'.eval (.tmp 40) = .agg #[.int .i64 m.ty, .int .u32 m.xid, .string m.cl, .string m.sv, .slice Ai m.ias.length ci, .int .i64 m.code, .bool m.rap, .bool m.acc, .int .i64 m.again, .slice Ao m.opts.length co] := hd 11 40 (by kernel_rfl) (by omega)
      refine XReg.call_ (ro := none) Try.func16 (by kernel_rfl) rfl #[.agg #[.int .i64 m.ty, .int .u32 m.xid, .string m.cl, .string m.sv, .slice Ai m.ias.length ci, .int .i64 m.code, .bool m.rap, .bool m.acc, .int .i64 m.again, .slice Ao m.opts.length co]] hop (by simp [e0]) ?_
      refine (tenancyref16_Sound.calls k m.ty m.xid m.cl m.sv Ai ci m.ias m.code m.rap m.acc m.again Ao co m.opts so w' qai hci qao hco hrs).mono ?_
      rintro e w2 ⟨rfl, hb2⟩
      exact ⟨_, rfl, _, rfl, hb2, rfl⟩
    · obtain ⟨hop, hdst⟩ := XReg.op_is (x := .binOp .eql 4 (.tmp 39) (.tmp 41) 4) (d := some 42) ho (by kernel_rfl)
      have e0 : a'.eval (.tmp 39) = .bool so := hd 10 39 (by kernel_rfl) (by omega)
      have e1 : a'.eval (.tmp 41) = .bool so := hd 12 41 (by kernel_rfl) (by omega)
      have hu0 := Try.underlying4
      refine XReg.val_ (v := .bool true) (w1 := w') (by rw [hop]; intro c h; cases h) (by simp [Oper.about, hop]) ?_ ⟨_, rfl, Below.refl _ _, rfl⟩
      unfold execOp
      rw [hop]
      clear hr hd hB
      clear qk qai qao
      generalize a'.eval = ρ at e0 e1 ⊢
      go_simp
    · obtain ⟨hop, hdst⟩ := XReg.op_is (x := .pick (.tmp 37) (.tmp 42) (.const (.bool false))) (d := some 43) ho (by kernel_rfl)
      have e0 : a'.eval (.tmp 37) = .bool true := hd 8 37 (by kernel_rfl) (by omega)
      have e1 : a'.eval (.tmp 42) = .bool true := hd 13 42 (by kernel_rfl) (by omega)
      have k0 : a'.eval (.const (.bool false)) = .bool false := rfl
      refine XReg.val_ (v := .bool true) (w1 := w') (by rw [hop]; intro c h; cases h) (by simp [Oper.about, hop]) ?_ ⟨_, rfl, Below.refl _ _, rfl⟩
      unfold execOp
      rw [hop]
      clear hr hd hB
      clear qk qai qao
      generalize a'.eval = ρ at e0 e1 k0 ⊢
      go_simp
  · intro o a' w' ho hB hdf hsz' hr hd
    have qk := blk_below bk hB
    have qai := Kd.C_below hai hB
    have qao := Kd.C_below hao hB
    have hfill := XReg.fill_eq [29, 30, 31, 32, 33, 34, 35, 36, 37, 38, 39, 40, 41, 42, 43] hsz' hdf (XReg.rest_of (ops := opsOf Try.f3 5) (m := 15) (by kernel_rfl) hr)
    obtain ⟨hop, hdst⟩ := XReg.op_is (x := .assign (.tmp 43)) (d := some 2) ho (by kernel_rfl)
    have e0 : a'.eval (.tmp 43) = .bool true := hd 14 43 (by kernel_rfl) (by omega)
    refine XReg.val_ (v := .bool true) (w1 := w') (by rw [hop]; intro c h; cases h) (by simp [Oper.about, hop]) ?_ (by rw [hdst, hfill]; exact hK _ w' hB)
    unfold execOp
    rw [hop]
    clear hr hd hB hfill hK
    generalize a'.eval = ρ at e0 ⊢
    go_simp
set_option maxHeartbeats 8000000 in
set_option maxRecDepth 100000 in
theorem w6encodes (k : Nat) (m : Ms) (Ai Ao : Option Addr) (ci co : Nat) (w : World) (hai : Kd.C k51 w Ai m.ias.length m.ias) (hci : m.ias.length ≤ ci) (hao : Kd.C k42 w Ao m.opts.length m.opts) (hco : m.opts.length ≤ co)
    (es : ByteArray) (ee : Int) (so : Bool) (hen : wire6_Encode.f k m.ty m.xid m.cl m.sv m.ias m.code m.rap m.acc m.again m.opts = some (es, ee)) (hre : tenancyref16_Encode.f k m.ty m.xid m.cl m.sv m.ias m.code m.rap m.acc m.again m.opts = some (es, ee)) (hso : wire6_Sound.f k m.ty m.xid m.cl m.sv m.ias m.code m.rap m.acc m.again m.opts = some so) (hrs : tenancyref16_Sound.f k m.ty m.xid m.cl m.sv m.ias m.code m.rap m.acc m.again m.opts = some so) :
    Calls Try.prog 3 #[.agg #[.int .i64 m.ty, .int .u32 m.xid, .string m.cl, .string m.sv, .slice Ai m.ias.length ci, .int .i64 m.code, .bool m.rap, .bool m.acc, .int .i64 m.again, .slice Ao m.opts.length co]] w fun e w' => e = .returned (.bool true) ∧ Below w.heap.size w w' := by
  have hu26 := Try.underlying26
  have hi26 : (Try.prog.info? 26).map (·.size) = some 10 := by kernel_rfl
  have HAI := Aside0.mk hai
  have HCI := Aside0.mk hci
  have HAO := Aside0.mk hao
  have HCO := Aside0.mk hco
  have HEN := Aside0.mk hen
  have HRE := Aside0.mk hre
  have HSO := Aside0.mk hso
  have HRS := Aside0.mk hrs
  clear hai hci hao hco hen hre hso hrs
  go_enter Try.func3, Try.ntmps3
  go_upto_region 1 with fail
  have BK := Aside0.mk (blk_new w (.cells #[.int .i64 m.ty, .int .u32 m.xid, .string m.cl, .string m.sv, .slice Ai m.ias.length ci, .int .i64 m.code, .bool m.rap, .bool m.acc, .int .i64 m.again, .slice Ao m.opts.length co] 26))
  have HB := Aside0.mk (below_alloc (Below.refl _ w) (.cells #[.int .i64 m.ty, .int .u32 m.xid, .string m.cl, .string m.sv, .slice Ai m.ias.length ci, .int .i64 m.code, .bool m.rap, .bool m.acc, .int .i64 m.again, .slice Ao m.opts.length co] 26))
  generalize w.alloc (.cells #[.int .i64 m.ty, .int .u32 m.xid, .string m.cl, .string m.sv, .slice Ai m.ias.length ci, .int .i64 m.code, .bool m.rap, .bool m.acc, .int .i64 m.again, .slice Ao m.opts.length co] 26) = w1 at BK HB ⊢
  generalize w.heap.size = gb at BK ⊢
  refine w6enc1 _ rfl _ _ _ _ (by kernel_rfl) gb m Ai Ao ci co rfl BK.out ?_
  intro u W hb
  have BKb := Aside0.mk (blk_below BK.out hb)
  have HBb := Aside0.mk (below_step HB.out hb)
  clear hb BK HB
  simp only [XReg.fills, List.foldl_cons, List.foldl_nil, Act.put, List.setIfInBounds_toArray, List.set_cons_zero, List.set_cons_succ]
  go_upto_region 4 with (first | ((with_reducible refine gate_dst (N := 20) rfl ?_); (try (refine gate_guard (by rfl) ?_; dsimp only)); refine XBox.loadL_ 20 rfl rfl 26 rfl gb rfl _ BKb.out hu26 rfl hi26 ?_; simp only [Act.put, List.setIfInBounds_toArray, List.set_cons_zero, List.set_cons_succ]) | (go_at_call 13; refine (wire6_Encode.calls k m.ty m.xid m.cl m.sv Ai ci m.ias m.code m.rap m.acc m.again Ao co m.opts es ee _ (Kd.C_below HAI.out HBb.out) HCI.out (Kd.C_below HAO.out HBb.out) HCO.out HEN.out).mono ?_; rintro e wc ⟨rfl, hb⟩; have BKc := Aside0.mk (blk_below BKb.out hb); have HBc := Aside0.mk (below_step HBb.out hb); clear hb))
  clear BKb HBb
  go_upto_region 5 with (first | ((with_reducible refine gate_dst (N := 25) rfl ?_); (try (refine gate_guard (by rfl) ?_; dsimp only)); refine XBox.loadL_ 25 rfl rfl 26 rfl gb rfl _ BKc.out hu26 rfl hi26 ?_; simp only [Act.put, List.setIfInBounds_toArray, List.set_cons_zero, List.set_cons_succ]) | (go_at_call 14; refine (tenancyref16_Encode.calls k m.ty m.xid m.cl m.sv Ai ci m.ias m.code m.rap m.acc m.again Ao co m.opts es ee _ (Kd.C_below HAI.out HBc.out) HCI.out (Kd.C_below HAO.out HBc.out) HCO.out HRE.out).mono ?_; rintro e wd ⟨rfl, hb⟩; have BKd := Aside0.mk (blk_below BKc.out hb); have HBd := Aside0.mk (below_step HBc.out hb); clear hb))
  clear BKc HBc
  refine w6enc5 _ rfl _ _ _ _ (by kernel_rfl) k gb m Ai Ao ci co es ee so rfl rfl rfl rfl rfl BKd.out (Kd.C_below HAI.out HBd.out) HCI.out (Kd.C_below HAO.out HBd.out) HCO.out HSO.out HRS.out ?_
  intro u W2 hb
  have HBe := Aside0.mk (below_step HBd.out hb)
  clear hb BKd HBd
  simp only [XReg.fills, List.foldl_cons, List.foldl_nil, Act.put, List.setIfInBounds_toArray, List.set_cons_zero, List.set_cons_succ]
  go_wp2
  go_ret
  exact ⟨rfl, by first | exact HBe.out | exact below_drew1 HBe.out | exact pw_below_drewN HBe.out _⟩

end Go.Proofs.Ythadapbekmmgpaa.X
