/- Steps that the print lacks: a string made a slice of bytes that is read; two calls, one behind the other, as one: no condition.  Own text. -/
import Derived.Test.YthadapbekmmgpaaDW
set_option linter.unusedVariables false
set_option linter.unusedSimpArgs false
namespace Go.Proofs.Ythadapbekmmgpaa.XRun
open Go.RowKit Go.Proofs.YthadapbekmmgpaaW.PrintWords Go.Proofs.YthadapbekmmgpaaW.PrintLast Go.Proofs.YthadapbekmmgpaaW.PrintMore

/-- What holds behind the conversion of a string to its bytes. -/
def ConvDone (e : TypeId) (s : ByteArray) (W : World) (Q : Ending → World → Prop) : Prop :=
  Q (.returned (.slice (some ⟨W.heap.size, 0, none⟩) s.size (grownCap W s.size 0 e))) (Lib.bytesWorld W e s)
theorem ConvDone.mono {e : TypeId} {s : ByteArray} {W : World} {Q Q' : Ending → World → Prop} (h : ConvDone e s W Q) (hq : ∀ e w, Q e w → Q' e w) : ConvDone e s W Q' := hq _ _ h
theorem conv_done (e : TypeId) (s : ByteArray) (W : World) (hs : s.size ≤ 9223372036854775807) : ConvDone e s W fun e' w' => ∃ v0_ : Value, e' = .returned (v0_) ∧ Kd.V (Kd.int .u8) e w' W.heap.size (fun k_ => W.heap.size ≤ k_) v0_ (bytesOf s) ∧ Below W.heap.size W w' := by
  refine ⟨_, rfl, ⟨some ⟨W.heap.size, 0, none⟩, grownCap W s.size 0 e, ?_, ?_, fun W' hW => ?_⟩, bytes_below (Below.refl _ _) (Nat.le_refl _) e s⟩
  · rw [bytesOf_length]
  · rw [bytesOf_length]; exact grownCap_ge _ _ _ _
  · rw [bytesOf_length]
    have h0 := bytes_reads W e s hs
    have hb : W.heap.size < (Lib.bytesWorld W e s).heap.size := by rw [Lib.bytesWorld_size]; omega
    have hk := hW W.heap.size (Nat.le_refl _) hb
    refine Kd.C_of_reads (d := (0 : Int)) (h1 := fun _ => rfl) ⟨h0.1, h0.2.1, fun hn => ?_⟩
    obtain ⟨ad, e1, hc⟩ := h0.2.2 hn
    refine ⟨ad, e1, fun j hj => ?_⟩
    obtain rfl := Option.some.inj e1
    rw [World.cell?_of_block (w := Lib.bytesWorld W e s) (w' := W') (by rw [add_plain]; exact hk)]
    exact hc j hj

section
variable {P : Program} {ops : Array Oper} {Q : Exit → Act → World → Prop} {rest : List Oper}
theorem convL_ {oi : Oper} {a : Act} {W : World} (N : Tmp) (hd : oi.dst = some N) (hg : oi.guard = none) (src dst e : TypeId) {u : TypeDesc} (hs : P.underlying src = some u) (ht : P.underlying dst = some (.slice e)) (he : P.underlying e = some (.int .u8)) (s : ByteArray) {x : Operand}
    (hop : oi.op = .convert src dst x) (hx : a.eval x = .string s) (h : ConvDone e s W fun e' w' => ∃ v, e' = .returned v ∧ wpList P ops Q rest (a.put (some N) v) w') : wpList P ops Q (oi :: rest) a W := by
  obtain ⟨v, hv, hk⟩ := h
  obtain rfl := Ending.returned.inj hv
  refine Kd.event_run hg (v := .slice (some ⟨W.heap.size, 0, none⟩) s.size (grownCap W s.size 0 e)) (w1 := Lib.bytesWorld W e s) ?_ (by rw [hd]; exact hk)
  unfold execOp
  simp [hop, hx, print_bytes src dst e hs ht he s W]

/-- Two calls, the second handed what the first gave. -/
def Calls2 (P : Program) (f1 : FuncId) (args1 : Array Value) (f2 : FuncId) (args2 : Value → Array Value) (w : World) (Q : Ending → World → Prop) : Prop :=
  Calls P f1 args1 w fun e w1 => ∃ v, e = .returned v ∧ Calls P f2 (args2 v) w1 Q
theorem Calls2.mono {f1 : FuncId} {args1 : Array Value} {f2 : FuncId} {args2 : Value → Array Value} {w : World} {Q Q' : Ending → World → Prop} (h : Calls2 P f1 args1 f2 args2 w Q) (hq : ∀ e w, Q e w → Q' e w) : Calls2 P f1 args1 f2 args2 w Q' :=
  Calls.mono h fun _ _ ⟨v, hv, hc⟩ => ⟨v, hv, hc.mono hq⟩
/-- The same, what follows not hanging on what the first gave. -/
structure AnyV (K : Value → Prop) : Prop where mk :: (out : ∀ v, K v)
end
end Go.Proofs.Ythadapbekmmgpaa.XRun
