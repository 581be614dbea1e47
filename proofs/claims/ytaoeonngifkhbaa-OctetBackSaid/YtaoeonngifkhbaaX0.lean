/- Functions of the program as Lean functions, and that the calls come to them: no condition.  By this session's own program (wip/xprint). -/
import Derived.Test.YtaoeonngifkhbaaProg
import Derived.Below
import Derived.Deep.Draws
import Derived.Deep.AppendLies
import Derived.Maps.AppendAt
import Derived.OwnWalk
import Derived.Laws.BytesArg
import Derived.Laws.MakeOwn
import Derived.Laws.OwnMore
import Derived.Deep.OwnRows
import Derived.Tactics
import Derived.Lib.ConvBytes
import Derived.Laws.Slices
import Derived.WalkKit
import Derived.KernelRfl
import Derived.RowKit3
import Derived.Deep.LoopGhost
import Derived.Deep.QuietTactic
import Derived.BigQuiet
import Derived.WideLaws
import Derived.Deep.DeepCutAuto
import Derived.Deep.CutBlock
import Derived.Deep.RegionHeld3
import Derived.Laws.Rows
import Derived.Lib.AppendStr
import Derived.ArgAppend
import Derived.Laws.IdiomCopy
import Derived.OrdersHeld
import Derived.Laws.BitsLemmas
import Derived.RowKit
import Derived.Test.YtaoeonngifkhbaaXRow
import Derived.Test.YtaoeonngifkhbaaXRun
import Derived.Test.YtaoeonngifkhbaaXRep
import Derived.Test.YtaoeonngifkhbaaXOrow
import Derived.Lib.Hide
import Derived.Test.YtaoeonngifkhbaaWWords
import Derived.Test.YtaoeonngifkhbaaWLast
import Derived.Test.YtaoeonngifkhbaaWTab
import Derived.Test.YtaoeonngifkhbaaWFour
import Derived.Test.YtaoeonngifkhbaaWQPut
import Derived.Test.YtaoeonngifkhbaaWApart
import Derived.Test.YtaoeonngifkhbaaWArr
import Derived.Test.YtaoeonngifkhbaaWZeros
import Derived.Test.YtaoeonngifkhbaaWFoot
import Derived.Test.YtaoeonngifkhbaaWKept
import Derived.Test.YtaoeonngifkhbaaWShare
import Derived.Test.YtaoeonngifkhbaaWN
import Derived.Test.YtaoeonngifkhbaaWFootNe
import Derived.Test.YtaoeonngifkhbaaWAt
import Derived.Test.YtaoeonngifkhbaaWEqStruct
import Derived.Test.YtaoeonngifkhbaaWRepsOne
import Derived.Test.YtaoeonngifkhbaaWInv
import Derived.Test.YtaoeonngifkhbaaWInvWords
import Derived.Test.YtaoeonngifkhbaaWGuard
import Derived.Test.YtaoeonngifkhbaaWNEv
import Derived.Test.YtaoeonngifkhbaaWMore
namespace Go.Proofs.Ytaoeonngifkhbaa.X
open Go.RowKit Go.Proofs.YtaoeonngifkhbaaW.PrintWords Go.Proofs.YtaoeonngifkhbaaW.PrintLast Go.Proofs.YtaoeonngifkhbaaW.PrintMore
attribute [local go_sem] max2_int min2_int max_two min_two max_three min_three max_four min_four   -- for this text's walks alone
set_option linter.unusedVariables false
set_option linter.unusedSimpArgs false



def errW : Option Int → Value
  | none => .nilIface
  | some c => .iface 0 (.int .i64 c)
theorem errW_none : errW none = .nilIface := rfl
theorem errW_some (c : Int) : errW (some c) = .iface 0 (.int .i64 c) := rfl

theorem info5 : (Try.prog.info? 5).map (fun i => (i.zero, i.size, i.bytes)) = some (some (.int .u8 0), 1, 1) := by kernel_rfl
-- the values' own types
def rd_L1 (xs : List (List Int)) (i : Int) : (List Int) := xs.getD i.toNat ([] : List Int)
theorem at_L1 {w : World} {A : Option Addr} {n : Nat} {xs : List (List Int)} (h : Kd.C (Kd.slice 5 (Kd.int .u8)) w A n xs) (i : Int) (h0 : 0 ≤ i) (h1 : i < n) : ∃ ad A0 c0, A = some ad ∧ w.cell? (ad.add i.toNat) = some (.slice A0 (rd_L1 xs i).length c0) ∧ (rd_L1 xs i).length ≤ c0 ∧ (Kd.int .u8).C w A0 (rd_L1 xs i).length (rd_L1 xs i) := by
  obtain ⟨ad, c, e, _, hK, hc0⟩ := Kd.C_get h ([] : List Int) i h0 h1
  have hc : ∀ j u, c[j]? = some u → w.cell? (ad.add (i.toNat * 1 + j)) = some u := hc0
  obtain ⟨A0, c0, rfl, l0, g0⟩ := hK
  exact ⟨ad, A0, c0, e, by have hq := hc 0 _ rfl; rwa [Nat.mul_one, Nat.add_zero] at hq, l0, g0⟩

/-! #### struct type 30 -/
structure S30 where
  f0 : Int
  f1 : Int
def z30 : S30 := ⟨(0 : Int), (0 : Int)⟩
def k30 : Kd S30 := Kd.iso (Kd.pair (Kd.int .u64) (Kd.int .u64)) (fun x : S30 => (x.f0, x.f1))
theorem k30_open {w : World} {x : S30} {cs : List Value} (h : k30.K w x cs) : cs = [.int .u64 x.f0, .int .u64 x.f1] := by
  obtain ⟨_, _, rfl, rfl, rfl⟩ := h
  exact rfl
theorem k30_openM {w : World} {base : Nat} {ok : Nat → Prop} {x : S30} {cs : List Value} (h : k30.M w base ok x cs) : cs = [.int .u64 x.f0, .int .u64 x.f1] := by
  obtain ⟨_, _, rfl, rfl, rfl⟩ := h
  exact rfl
theorem k30_mk (w : World) (x : S30)  : k30.K w x [.int .u64 x.f0, .int .u64 x.f1] := ⟨[.int .u64 x.f0], [.int .u64 x.f1], rfl, rfl, rfl⟩
theorem k30_mkM (w : World) (base : Nat) (ok : Nat → Prop) (x : S30)  : k30.M w base ok x [.int .u64 x.f0, .int .u64 x.f1] := ⟨[.int .u64 x.f0], [.int .u64 x.f1], rfl, rfl, rfl⟩
theorem k30_mkF (W : World) (ok : Nat → Prop) (x : S30) : Kd.FK k30 W ok x [.int .u64 x.f0, .int .u64 x.f1] := fun W2 _ => k30_mk W2 x
def rd_T30 (xs : List S30) (i : Int) : S30 := xs.getD i.toNat z30
theorem at_T30 {w : World} {A : Option Addr} {n : Nat} {xs : List S30} (h : Kd.C k30 w A n xs) (i : Int) (h0 : 0 ≤ i) (h1 : i < n) : ∃ ad , A = some ad ∧ w.cell? (ad.add (i.toNat * 2)) = some (.int .u64 (rd_T30 xs i).f0) ∧ w.cell? ⟨(ad.add (i.toNat * 2)).block, (ad.add (i.toNat * 2)).off + 1, none⟩ = some (.int .u64 (rd_T30 xs i).f1) := by
  obtain ⟨ad, c, e, _, hK, hc0⟩ := Kd.C_get h z30 i h0 h1
  have hc : ∀ j u, c[j]? = some u → w.cell? (ad.add (i.toNat * 2 + j)) = some u := hc0
  obtain rfl := k30_open hK
  exact ⟨ad, e, hc 0 _ rfl, by rw [← add_field _ _ 1 (by omega)]; exact hc 1 _ rfl⟩

/-- A string made a slice of bytes that is read: types 9 to 55. -/
def conv9_55.f (a0 : ByteArray) : Option (List Int) := if a0.size ≤ 9223372036854775807 then some (bytesOf a0) else none
theorem conv9_55.calls (a0 : ByteArray) (r : List Int) (w : World) (h : conv9_55.f a0 = some r) : XRun.ConvDone 5 a0 w fun e w' => ∃ v0_ : Value, e = .returned (v0_) ∧ Kd.V (Kd.int .u8) 5 w' w.heap.size (fun k_ => w.heap.size ≤ k_) v0_ r ∧ Below w.heap.size w w' := by
  unfold conv9_55.f at h
  split at h
  · obtain rfl := Option.some.inj h
    exact XRun.conv_done 5 a0 w ‹_›
  · cases h

def wf30 (x : S30) : Prop := ((Lit.int .u64 x.f0).wf = true) ∧ ((Lit.int .u64 x.f1).wf = true)
theorem opens30 : XRow.Opens Try.prog 30 k30 wf30 := XRow.opens_iso (fun x_ : S30 => (x_.f0, x_.f1)) (fun p_ => ⟨p_.1, p_.2⟩) (fun _ => rfl) (XRow.opens_struct (total := 2) Try.underlying30 (by kernel_rfl) (XRow.opensF_cons (k := 1) rfl (by kernel_rfl) (by decide) (by decide) (XRow.opens_int Try.underlying28) (XRow.opensF_one rfl (by kernel_rfl) (XRow.opens_int Try.underlying28))))
end Go.Proofs.Ytaoeonngifkhbaa.X
