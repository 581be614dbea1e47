/- Functions of the program as Lean functions, and that the calls come to them: no condition.  By this session's own program (wip/xprint). -/
import Derived.Test.YtjpcokifadaedaaDoorProg
import Derived.Below
import Derived.Deep.Draws
import Derived.Deep.AppendLies
import Derived.Maps.AppendAt
import Derived.OwnWalk
import Derived.Laws.BytesArg
import Derived.Laws.MakeOwn
import Derived.Laws.OwnMore
import Derived.Deep.OwnRows
import Derived.Tactics
import Derived.Lib.ConvBytes
import Derived.Laws.Slices
import Derived.WalkKit
import Derived.KernelRfl
import Derived.RowKit3
import Derived.Deep.LoopGhost
import Derived.Deep.QuietTactic
import Derived.BigQuiet
import Derived.WideLaws
import Derived.Deep.DeepCutAuto
import Derived.Deep.CutBlock
import Derived.Deep.RegionHeld3
import Derived.Laws.Rows
import Derived.Lib.AppendStr
import Derived.ArgAppend
import Derived.Laws.IdiomCopy
import Derived.OrdersHeld
import Derived.Laws.BitsLemmas
import Derived.RowKit
import Derived.Test.YtjpcokifadaedaaDoorXRow
import Derived.Test.YtjpcokifadaedaaDoorXRun
import Derived.Deep.RegionHeld3
import Derived.Deep.DeepCutAuto
import Derived.Test.YtjpcokifadaedaaDoorXOrow
import Derived.Test.YtjpcokifadaedaaDoorXSh
import Derived.Test.YtjpcokifadaedaaDoorXBox
import Derived.Test.YtjpcokifadaedaaDoorXByR
import Derived.Test.YtjpcokifadaedaaDoorXReg
import Derived.Test.YtjpcokifadaedaaDoorXIn
import Derived.Outline
import Derived.Lib.Hide
import Derived.Lib.SliceRun
import Derived.WalkSpells
import Derived.RangeFuncNested
import Derived.RangeFuncBound
import Derived.RangeFuncCalls
import Derived.RangeFuncLeaves
import Derived.WalkKit
import Derived.OwnWalkIn
import Derived.TacticsInMore
import Derived.Deep.RegionLaw
import Derived.Test.YtjpcokifadaedaaDoorWWords
import Derived.Test.YtjpcokifadaedaaDoorWLast
import Derived.Test.YtjpcokifadaedaaDoorWTab
import Derived.Test.YtjpcokifadaedaaDoorWFour
import Derived.Test.YtjpcokifadaedaaDoorWQPut
import Derived.Test.YtjpcokifadaedaaDoorWApart
import Derived.Test.YtjpcokifadaedaaDoorWArr
import Derived.Test.YtjpcokifadaedaaDoorWZeros
import Derived.Test.YtjpcokifadaedaaDoorWFoot
import Derived.Test.YtjpcokifadaedaaDoorWKept
import Derived.Test.YtjpcokifadaedaaDoorWShare
import Derived.Test.YtjpcokifadaedaaDoorWN
import Derived.Test.YtjpcokifadaedaaDoorWFootNe
import Derived.Test.YtjpcokifadaedaaDoorWAt
import Derived.Test.YtjpcokifadaedaaDoorWEqStruct
import Derived.Test.YtjpcokifadaedaaDoorWRepsOne
import Derived.Test.YtjpcokifadaedaaDoorWInv
import Derived.Test.YtjpcokifadaedaaDoorWInvWords
import Derived.Test.YtjpcokifadaedaaDoorWGuard
import Derived.Test.YtjpcokifadaedaaDoorWNEv
import Derived.Test.YtjpcokifadaedaaDoorWMore
namespace Go.Proofs.YtjpcokifadaedaaDoor.X
open Go.RowKit Go.Proofs.YtjpcokifadaedaaDoorW.PrintWords Go.Proofs.YtjpcokifadaedaaDoorW.PrintLast Go.Proofs.YtjpcokifadaedaaDoorW.PrintMore
attribute [local go_sem] max2_int min2_int max_two min_two max_three min_three max_four min_four   -- for this text's walks alone
set_option linter.unusedVariables false
set_option linter.unusedSimpArgs false



def errW : Option Int → Value
  | none => .nilIface
  | some c => .iface 0 (.int .i64 c)
theorem errW_none : errW none = .nilIface := rfl
theorem errW_some (c : Int) : errW (some c) = .iface 0 (.int .i64 c) := rfl

theorem info5 : (Tryd.prog.info? 5).map (fun i => (i.zero, i.size, i.bytes)) = some (some (.int .u8 0), 1, 1) := by kernel_rfl
-- the values' own types
def rd_L1 (xs : List (List Int)) (i : Int) : (List Int) := xs.getD i.toNat ([] : List Int)
theorem at_L1 {w : World} {A : Option Addr} {n : Nat} {xs : List (List Int)} (h : Kd.C (Kd.slice 5 (Kd.int .u8)) w A n xs) (i : Int) (h0 : 0 ≤ i) (h1 : i < n) : ∃ ad A0 c0, A = some ad ∧ w.cell? (ad.add i.toNat) = some (.slice A0 (rd_L1 xs i).length c0) ∧ (rd_L1 xs i).length ≤ c0 ∧ (Kd.int .u8).C w A0 (rd_L1 xs i).length (rd_L1 xs i) := by
  obtain ⟨ad, c, e, _, hK, hc0⟩ := Kd.C_get h ([] : List Int) i h0 h1
  have hc : ∀ j u, c[j]? = some u → w.cell? (ad.add (i.toNat * 1 + j)) = some u := hc0
  obtain ⟨A0, c0, rfl, l0, g0⟩ := hK
  exact ⟨ad, A0, c0, e, by have hq := hc 0 _ rfl; rwa [Nat.mul_one, Nat.add_zero] at hq, l0, g0⟩

/-- A string made a slice of bytes that is read: types 9 to 31. -/
def conv9_31.f (a0 : ByteArray) : Option (List Int) := if a0.size ≤ 9223372036854775807 then some (bytesOf a0) else none
theorem conv9_31.calls (a0 : ByteArray) (r : List Int) (w : World) (h : conv9_31.f a0 = some r) : XRun.ConvDone 5 a0 w fun e w' => ∃ v0_ : Value, e = .returned (v0_) ∧ Kd.V (Kd.int .u8) 5 w' w.heap.size (fun k_ => w.heap.size ≤ k_) v0_ r ∧ Below w.heap.size w w' := by
  unfold conv9_31.f at h
  split at h
  · obtain rfl := Option.some.inj h
    exact XRun.conv_done 5 a0 w ‹_›
  · cases h

end Go.Proofs.YtjpcokifadaedaaDoor.X
