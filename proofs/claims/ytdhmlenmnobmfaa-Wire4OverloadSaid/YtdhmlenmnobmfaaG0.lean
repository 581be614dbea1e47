/- Functions of the program as Lean functions, and that the calls come to them: no condition.  By this session's own program (wip/xprint). -/
import Derived.Test.YtdhmlenmnobmfaaProg
import Derived.Below
import Derived.Deep.Draws
import Derived.Deep.AppendLies
import Derived.Maps.AppendAt
import Derived.OwnWalk
import Derived.Laws.BytesArg
import Derived.Laws.MakeOwn
import Derived.Laws.OwnMore
import Derived.Deep.OwnRows
import Derived.Tactics
import Derived.Lib.ConvBytes
import Derived.Laws.Slices
import Derived.WalkKit
import Derived.KernelRfl
import Derived.RowKit3
import Derived.Deep.LoopGhost
import Derived.Deep.QuietTactic
import Derived.BigQuiet
import Derived.WideLaws
import Derived.Deep.DeepCutAuto
import Derived.Deep.CutBlock
import Derived.Deep.RegionHeld3
import Derived.Laws.Rows
import Derived.Lib.AppendStr
import Derived.ArgAppend
import Derived.Laws.IdiomCopy
import Derived.OrdersHeld
import Derived.Laws.BitsLemmas
import Derived.RowKit
import Derived.Test.YtdhmlenmnobmfaaYRow
import Derived.Test.YtdhmlenmnobmfaaYRun
import Derived.Deep.RegionHeld3
import Derived.Deep.DeepCutAuto
import Derived.Test.YtdhmlenmnobmfaaYOrow
import Derived.Test.YtdhmlenmnobmfaaYRep
import Derived.Test.YtdhmlenmnobmfaaYSh
import Derived.Test.YtdhmlenmnobmfaaYShK
import Derived.Test.YtdhmlenmnobmfaaYBox
import Derived.Test.YtdhmlenmnobmfaaYByR
import Derived.Outline
import Derived.Lib.Hide
import Derived.Lib.SliceRun
import Derived.WalkSpells
import Derived.Test.YtdhmlenmnobmfaaVWords
import Derived.Test.YtdhmlenmnobmfaaVLast
import Derived.Test.YtdhmlenmnobmfaaVTab
import Derived.Test.YtdhmlenmnobmfaaVFour
import Derived.Test.YtdhmlenmnobmfaaVQPut
import Derived.Test.YtdhmlenmnobmfaaVApart
import Derived.Test.YtdhmlenmnobmfaaVArr
import Derived.Test.YtdhmlenmnobmfaaVZeros
import Derived.Test.YtdhmlenmnobmfaaVFoot
import Derived.Test.YtdhmlenmnobmfaaVKept
import Derived.Test.YtdhmlenmnobmfaaVShare
import Derived.Test.YtdhmlenmnobmfaaVN
import Derived.Test.YtdhmlenmnobmfaaVFootNe
import Derived.Test.YtdhmlenmnobmfaaVAt
import Derived.Test.YtdhmlenmnobmfaaVEqStruct
import Derived.Test.YtdhmlenmnobmfaaVRepsOne
import Derived.Test.YtdhmlenmnobmfaaVInv
import Derived.Test.YtdhmlenmnobmfaaVInvWords
import Derived.Test.YtdhmlenmnobmfaaVGuard
import Derived.Test.YtdhmlenmnobmfaaVNEv
import Derived.Test.YtdhmlenmnobmfaaVMore
namespace Go.Proofs.Ytdhmlenmnobmfaa.X
open Go.RowKit Go.Proofs.YtdhmlenmnobmfaaW.PrintWords Go.Proofs.YtdhmlenmnobmfaaW.PrintLast Go.Proofs.YtdhmlenmnobmfaaW.PrintMore
attribute [local go_sem] max2_int min2_int max_two min_two max_three min_three max_four min_four   -- for this text's walks alone
set_option linter.unusedVariables false
set_option linter.unusedSimpArgs false
def errW : Option Int → Value
  | none => .nilIface
  | some c => .iface 0 (.int .i64 c)
theorem errW_none : errW none = .nilIface := rfl
theorem errW_some (c : Int) : errW (some c) = .iface 0 (.int .i64 c) := rfl

theorem info5 : (Try.prog.info? 5).map (fun i => (i.zero, i.size, i.bytes)) = some (some (.int .u8 0), 1, 1) := by kernel_rfl
theorem info9 : (Try.prog.info? 9).map (fun i => (i.zero, i.size, i.bytes)) = some (some (.string ⟨#[]⟩), 1, 16) := by kernel_rfl
theorem info26 : (Try.prog.info? 26).map (fun i => (i.zero, i.size, i.bytes)) = some (some (.agg #[(.int .u8 0), (.int .u8 0), (.int .u8 0), (.int .u8 0), (.int .u32 0), (.int .u16 0), (.int .u16 0), (.int .u32 0), (.int .u32 0), (.int .u32 0), (.int .u32 0), (.string ⟨#[]⟩), (.string ⟨#[]⟩), (.string ⟨#[]⟩), (.slice none 0 0)]), 15, 104) := by kernel_rfl
theorem info47 : (Try.prog.info? 47).map (fun i => (i.zero, i.size, i.bytes)) = some (some (.agg #[(.int .u8 0), (.string ⟨#[]⟩)]), 2, 24) := by kernel_rfl
-- the values' own types
/-! #### struct type 47 -/
structure S47 where
  f0 : Int
  f1 : ByteArray
def z47 : S47 := ⟨(0 : Int), (⟨#[]⟩ : ByteArray)⟩
def k47 : Kd S47 := Kd.iso (Kd.pair (Kd.int .u8) Kd.string) (fun x : S47 => (x.f0, x.f1))
theorem k47_open {w : World} {x : S47} {cs : List Value} (h : k47.K w x cs) : cs = [.int .u8 x.f0, .string x.f1] := by
  obtain ⟨_, _, rfl, rfl, rfl⟩ := h
  exact rfl
theorem k47_openM {w : World} {base : Nat} {ok : Nat → Prop} {x : S47} {cs : List Value} (h : k47.M w base ok x cs) : cs = [.int .u8 x.f0, .string x.f1] := by
  obtain ⟨_, _, rfl, rfl, rfl⟩ := h
  exact rfl
theorem k47_mk (w : World) (x : S47)  : k47.K w x [.int .u8 x.f0, .string x.f1] := ⟨[.int .u8 x.f0], [.string x.f1], rfl, rfl, rfl⟩
theorem k47_mkM (w : World) (base : Nat) (ok : Nat → Prop) (x : S47)  : k47.M w base ok x [.int .u8 x.f0, .string x.f1] := ⟨[.int .u8 x.f0], [.string x.f1], rfl, rfl, rfl⟩
theorem k47_mkF (W : World) (ok : Nat → Prop) (x : S47) : Kd.FK k47 W ok x [.int .u8 x.f0, .string x.f1] := fun W2 _ => k47_mk W2 x
def rd_T47 (xs : List S47) (i : Int) : S47 := xs.getD i.toNat z47
theorem at_T47 {w : World} {A : Option Addr} {n : Nat} {xs : List S47} (h : Kd.C k47 w A n xs) (i : Int) (h0 : 0 ≤ i) (h1 : i < n) : ∃ ad , A = some ad ∧ w.cell? (ad.add (i.toNat * 2)) = some (.int .u8 (rd_T47 xs i).f0) ∧ w.cell? ⟨(ad.add (i.toNat * 2)).block, (ad.add (i.toNat * 2)).off + 1, none⟩ = some (.string (rd_T47 xs i).f1) := by
  obtain ⟨ad, c, e, _, hK, hc0⟩ := Kd.C_get h z47 i h0 h1
  have hc : ∀ j u, c[j]? = some u → w.cell? (ad.add (i.toNat * 2 + j)) = some u := hc0
  obtain rfl := k47_open hK
  exact ⟨ad, e, hc 0 _ rfl, by rw [← add_field _ _ 1 (by omega)]; exact hc 1 _ rfl⟩

def rd_L3 (xs : List (List S47)) (i : Int) : (List S47) := xs.getD i.toNat ([] : List S47)
theorem at_L3 {w : World} {A : Option Addr} {n : Nat} {xs : List (List S47)} (h : Kd.C (Kd.slice 47 k47) w A n xs) (i : Int) (h0 : 0 ≤ i) (h1 : i < n) : ∃ ad A0 c0, A = some ad ∧ w.cell? (ad.add i.toNat) = some (.slice A0 (rd_L3 xs i).length c0) ∧ (rd_L3 xs i).length ≤ c0 ∧ k47.C w A0 (rd_L3 xs i).length (rd_L3 xs i) := by
  obtain ⟨ad, c, e, _, hK, hc0⟩ := Kd.C_get h ([] : List S47) i h0 h1
  have hc : ∀ j u, c[j]? = some u → w.cell? (ad.add (i.toNat * 1 + j)) = some u := hc0
  obtain ⟨A0, c0, rfl, l0, g0⟩ := hK
  exact ⟨ad, A0, c0, e, by have hq := hc 0 _ rfl; rwa [Nat.mul_one, Nat.add_zero] at hq, l0, g0⟩

/-! #### struct type 26 -/
structure S26 where
  f0 : Int
  f1 : Int
  f2 : Int
  f3 : Int
  f4 : Int
  f5 : Int
  f6 : Int
  f7 : Int
  f8 : Int
  f9 : Int
  f10 : Int
  f11 : ByteArray
  f12 : ByteArray
  f13 : ByteArray
  f14 : (List S47)
def z26 : S26 := ⟨(0 : Int), (0 : Int), (0 : Int), (0 : Int), (0 : Int), (0 : Int), (0 : Int), (0 : Int), (0 : Int), (0 : Int), (0 : Int), (⟨#[]⟩ : ByteArray), (⟨#[]⟩ : ByteArray), (⟨#[]⟩ : ByteArray), ([] : List S47)⟩
def k26 : Kd S26 := Kd.iso (Kd.pair (Kd.int .u8) (Kd.pair (Kd.int .u8) (Kd.pair (Kd.int .u8) (Kd.pair (Kd.int .u8) (Kd.pair (Kd.int .u32) (Kd.pair (Kd.int .u16) (Kd.pair (Kd.int .u16) (Kd.pair (Kd.int .u32) (Kd.pair (Kd.int .u32) (Kd.pair (Kd.int .u32) (Kd.pair (Kd.int .u32) (Kd.pair Kd.string (Kd.pair Kd.string (Kd.pair Kd.string (Kd.slice 47 k47))))))))))))))) (fun x : S26 => (x.f0, x.f1, x.f2, x.f3, x.f4, x.f5, x.f6, x.f7, x.f8, x.f9, x.f10, x.f11, x.f12, x.f13, x.f14))
theorem k26_open {w : World} {x : S26} {cs : List Value} (h : k26.K w x cs) : ∃ A14 c14, cs = [.int .u8 x.f0, .int .u8 x.f1, .int .u8 x.f2, .int .u8 x.f3, .int .u32 x.f4, .int .u16 x.f5, .int .u16 x.f6, .int .u32 x.f7, .int .u32 x.f8, .int .u32 x.f9, .int .u32 x.f10, .string x.f11, .string x.f12, .string x.f13, .slice A14 x.f14.length c14] ∧ x.f14.length ≤ c14 ∧ k47.C w A14 x.f14.length x.f14 := by
  obtain ⟨_, _, rfl, rfl, ⟨_, _, rfl, rfl, ⟨_, _, rfl, rfl, ⟨_, _, rfl, rfl, ⟨_, _, rfl, rfl, ⟨_, _, rfl, rfl, ⟨_, _, rfl, rfl, ⟨_, _, rfl, rfl, ⟨_, _, rfl, rfl, ⟨_, _, rfl, rfl, ⟨_, _, rfl, rfl, ⟨_, _, rfl, rfl, ⟨_, _, rfl, rfl, ⟨_, _, rfl, rfl, ⟨A14, c14, rfl, l14, g14⟩⟩⟩⟩⟩⟩⟩⟩⟩⟩⟩⟩⟩⟩⟩ := h
  exact ⟨A14, c14, rfl, l14, g14⟩
theorem k26_openM {w : World} {base : Nat} {ok : Nat → Prop} {x : S26} {cs : List Value} (h : k26.M w base ok x cs) : ∃ v14, cs = [.int .u8 x.f0, .int .u8 x.f1, .int .u8 x.f2, .int .u8 x.f3, .int .u32 x.f4, .int .u16 x.f5, .int .u16 x.f6, .int .u32 x.f7, .int .u32 x.f8, .int .u32 x.f9, .int .u32 x.f10, .string x.f11, .string x.f12, .string x.f13, v14] ∧ k47.R 47 w base ok v14 x.f14 := by
  obtain ⟨_, _, rfl, rfl, ⟨_, _, rfl, rfl, ⟨_, _, rfl, rfl, ⟨_, _, rfl, rfl, ⟨_, _, rfl, rfl, ⟨_, _, rfl, rfl, ⟨_, _, rfl, rfl, ⟨_, _, rfl, rfl, ⟨_, _, rfl, rfl, ⟨_, _, rfl, rfl, ⟨_, _, rfl, rfl, ⟨_, _, rfl, rfl, ⟨_, _, rfl, rfl, ⟨_, _, rfl, rfl, ⟨v14, rfl, g14⟩⟩⟩⟩⟩⟩⟩⟩⟩⟩⟩⟩⟩⟩⟩ := h
  exact ⟨v14, rfl, g14⟩
theorem k26_mk (w : World) (x : S26) {A14 : Option Addr} {c14 : Nat} (l14 : x.f14.length ≤ c14) (g14 : k47.C w A14 x.f14.length x.f14) : k26.K w x [.int .u8 x.f0, .int .u8 x.f1, .int .u8 x.f2, .int .u8 x.f3, .int .u32 x.f4, .int .u16 x.f5, .int .u16 x.f6, .int .u32 x.f7, .int .u32 x.f8, .int .u32 x.f9, .int .u32 x.f10, .string x.f11, .string x.f12, .string x.f13, .slice A14 x.f14.length c14] := ⟨[.int .u8 x.f0], [.int .u8 x.f1, .int .u8 x.f2, .int .u8 x.f3, .int .u32 x.f4, .int .u16 x.f5, .int .u16 x.f6, .int .u32 x.f7, .int .u32 x.f8, .int .u32 x.f9, .int .u32 x.f10, .string x.f11, .string x.f12, .string x.f13, .slice A14 x.f14.length c14], rfl, rfl, ⟨[.int .u8 x.f1], [.int .u8 x.f2, .int .u8 x.f3, .int .u32 x.f4, .int .u16 x.f5, .int .u16 x.f6, .int .u32 x.f7, .int .u32 x.f8, .int .u32 x.f9, .int .u32 x.f10, .string x.f11, .string x.f12, .string x.f13, .slice A14 x.f14.length c14], rfl, rfl, ⟨[.int .u8 x.f2], [.int .u8 x.f3, .int .u32 x.f4, .int .u16 x.f5, .int .u16 x.f6, .int .u32 x.f7, .int .u32 x.f8, .int .u32 x.f9, .int .u32 x.f10, .string x.f11, .string x.f12, .string x.f13, .slice A14 x.f14.length c14], rfl, rfl, ⟨[.int .u8 x.f3], [.int .u32 x.f4, .int .u16 x.f5, .int .u16 x.f6, .int .u32 x.f7, .int .u32 x.f8, .int .u32 x.f9, .int .u32 x.f10, .string x.f11, .string x.f12, .string x.f13, .slice A14 x.f14.length c14], rfl, rfl, ⟨[.int .u32 x.f4], [.int .u16 x.f5, .int .u16 x.f6, .int .u32 x.f7, .int .u32 x.f8, .int .u32 x.f9, .int .u32 x.f10, .string x.f11, .string x.f12, .string x.f13, .slice A14 x.f14.length c14], rfl, rfl, ⟨[.int .u16 x.f5], [.int .u16 x.f6, .int .u32 x.f7, .int .u32 x.f8, .int .u32 x.f9, .int .u32 x.f10, .string x.f11, .string x.f12, .string x.f13, .slice A14 x.f14.length c14], rfl, rfl, ⟨[.int .u16 x.f6], [.int .u32 x.f7, .int .u32 x.f8, .int .u32 x.f9, .int .u32 x.f10, .string x.f11, .string x.f12, .string x.f13, .slice A14 x.f14.length c14], rfl, rfl, ⟨[.int .u32 x.f7], [.int .u32 x.f8, .int .u32 x.f9, .int .u32 x.f10, .string x.f11, .string x.f12, .string x.f13, .slice A14 x.f14.length c14], rfl, rfl, ⟨[.int .u32 x.f8], [.int .u32 x.f9, .int .u32 x.f10, .string x.f11, .string x.f12, .string x.f13, .slice A14 x.f14.length c14], rfl, rfl, ⟨[.int .u32 x.f9], [.int .u32 x.f10, .string x.f11, .string x.f12, .string x.f13, .slice A14 x.f14.length c14], rfl, rfl, ⟨[.int .u32 x.f10], [.string x.f11, .string x.f12, .string x.f13, .slice A14 x.f14.length c14], rfl, rfl, ⟨[.string x.f11], [.string x.f12, .string x.f13, .slice A14 x.f14.length c14], rfl, rfl, ⟨[.string x.f12], [.string x.f13, .slice A14 x.f14.length c14], rfl, rfl, ⟨[.string x.f13], [.slice A14 x.f14.length c14], rfl, rfl, ⟨A14, c14, rfl, l14, g14⟩⟩⟩⟩⟩⟩⟩⟩⟩⟩⟩⟩⟩⟩⟩
theorem k26_mkM (w : World) (base : Nat) (ok : Nat → Prop) (x : S26) {v14 : Value} (g14 : k47.R 47 w base ok v14 x.f14) : k26.M w base ok x [.int .u8 x.f0, .int .u8 x.f1, .int .u8 x.f2, .int .u8 x.f3, .int .u32 x.f4, .int .u16 x.f5, .int .u16 x.f6, .int .u32 x.f7, .int .u32 x.f8, .int .u32 x.f9, .int .u32 x.f10, .string x.f11, .string x.f12, .string x.f13, v14] := ⟨[.int .u8 x.f0], [.int .u8 x.f1, .int .u8 x.f2, .int .u8 x.f3, .int .u32 x.f4, .int .u16 x.f5, .int .u16 x.f6, .int .u32 x.f7, .int .u32 x.f8, .int .u32 x.f9, .int .u32 x.f10, .string x.f11, .string x.f12, .string x.f13, v14], rfl, rfl, ⟨[.int .u8 x.f1], [.int .u8 x.f2, .int .u8 x.f3, .int .u32 x.f4, .int .u16 x.f5, .int .u16 x.f6, .int .u32 x.f7, .int .u32 x.f8, .int .u32 x.f9, .int .u32 x.f10, .string x.f11, .string x.f12, .string x.f13, v14], rfl, rfl, ⟨[.int .u8 x.f2], [.int .u8 x.f3, .int .u32 x.f4, .int .u16 x.f5, .int .u16 x.f6, .int .u32 x.f7, .int .u32 x.f8, .int .u32 x.f9, .int .u32 x.f10, .string x.f11, .string x.f12, .string x.f13, v14], rfl, rfl, ⟨[.int .u8 x.f3], [.int .u32 x.f4, .int .u16 x.f5, .int .u16 x.f6, .int .u32 x.f7, .int .u32 x.f8, .int .u32 x.f9, .int .u32 x.f10, .string x.f11, .string x.f12, .string x.f13, v14], rfl, rfl, ⟨[.int .u32 x.f4], [.int .u16 x.f5, .int .u16 x.f6, .int .u32 x.f7, .int .u32 x.f8, .int .u32 x.f9, .int .u32 x.f10, .string x.f11, .string x.f12, .string x.f13, v14], rfl, rfl, ⟨[.int .u16 x.f5], [.int .u16 x.f6, .int .u32 x.f7, .int .u32 x.f8, .int .u32 x.f9, .int .u32 x.f10, .string x.f11, .string x.f12, .string x.f13, v14], rfl, rfl, ⟨[.int .u16 x.f6], [.int .u32 x.f7, .int .u32 x.f8, .int .u32 x.f9, .int .u32 x.f10, .string x.f11, .string x.f12, .string x.f13, v14], rfl, rfl, ⟨[.int .u32 x.f7], [.int .u32 x.f8, .int .u32 x.f9, .int .u32 x.f10, .string x.f11, .string x.f12, .string x.f13, v14], rfl, rfl, ⟨[.int .u32 x.f8], [.int .u32 x.f9, .int .u32 x.f10, .string x.f11, .string x.f12, .string x.f13, v14], rfl, rfl, ⟨[.int .u32 x.f9], [.int .u32 x.f10, .string x.f11, .string x.f12, .string x.f13, v14], rfl, rfl, ⟨[.int .u32 x.f10], [.string x.f11, .string x.f12, .string x.f13, v14], rfl, rfl, ⟨[.string x.f11], [.string x.f12, .string x.f13, v14], rfl, rfl, ⟨[.string x.f12], [.string x.f13, v14], rfl, rfl, ⟨[.string x.f13], [v14], rfl, rfl, ⟨v14, rfl, g14⟩⟩⟩⟩⟩⟩⟩⟩⟩⟩⟩⟩⟩⟩⟩
theorem k26_openF {W : World} {ok : Nat → Prop} {x : S26} {cs : List Value} (h : Kd.FK k26 W ok x cs) : ∃ A14 c14, cs = [.int .u8 x.f0, .int .u8 x.f1, .int .u8 x.f2, .int .u8 x.f3, .int .u32 x.f4, .int .u16 x.f5, .int .u16 x.f6, .int .u32 x.f7, .int .u32 x.f8, .int .u32 x.f9, .int .u32 x.f10, .string x.f11, .string x.f12, .string x.f13, .slice A14 x.f14.length c14] ∧ x.f14.length ≤ c14 ∧ Kd.F k47 W ok A14 x.f14.length x.f14 := by
  obtain ⟨A14, c14, rfl, l14, _⟩ := k26_open (Kd.FK_now h)
  exact ⟨A14, c14, rfl, l14, (fun W' hW => by obtain ⟨A14_, c14_, he, l14_, g14_⟩ := k26_open (h W' hW); injection (Option.some.inj (show some (Value.slice A14 x.f14.length c14) = some (Value.slice A14_ x.f14.length c14_) from congrArg (fun l => l[14]?) he)) with ha_ _ _; rw [ha_]; exact g14_)⟩
theorem k26_mkF (W : World) (ok : Nat → Prop) (x : S26) {A14 : Option Addr} {c14 : Nat} (l14 : x.f14.length ≤ c14) (g14 : Kd.F k47 W ok A14 x.f14.length x.f14) : Kd.FK k26 W ok x [.int .u8 x.f0, .int .u8 x.f1, .int .u8 x.f2, .int .u8 x.f3, .int .u32 x.f4, .int .u16 x.f5, .int .u16 x.f6, .int .u32 x.f7, .int .u32 x.f8, .int .u32 x.f9, .int .u32 x.f10, .string x.f11, .string x.f12, .string x.f13, .slice A14 x.f14.length c14] := fun W2 hW => k26_mk W2 x l14 (g14 W2 hW)
def rd_T26 (xs : List S26) (i : Int) : S26 := xs.getD i.toNat z26
theorem at_T26 {w : World} {A : Option Addr} {n : Nat} {xs : List S26} (h : Kd.C k26 w A n xs) (i : Int) (h0 : 0 ≤ i) (h1 : i < n) : ∃ ad A14 c14, A = some ad ∧ w.cell? (ad.add (i.toNat * 15)) = some (.int .u8 (rd_T26 xs i).f0) ∧ w.cell? ⟨(ad.add (i.toNat * 15)).block, (ad.add (i.toNat * 15)).off + 1, none⟩ = some (.int .u8 (rd_T26 xs i).f1) ∧ w.cell? ⟨(ad.add (i.toNat * 15)).block, (ad.add (i.toNat * 15)).off + 2, none⟩ = some (.int .u8 (rd_T26 xs i).f2) ∧ w.cell? ⟨(ad.add (i.toNat * 15)).block, (ad.add (i.toNat * 15)).off + 3, none⟩ = some (.int .u8 (rd_T26 xs i).f3) ∧ w.cell? ⟨(ad.add (i.toNat * 15)).block, (ad.add (i.toNat * 15)).off + 4, none⟩ = some (.int .u32 (rd_T26 xs i).f4) ∧ w.cell? ⟨(ad.add (i.toNat * 15)).block, (ad.add (i.toNat * 15)).off + 5, none⟩ = some (.int .u16 (rd_T26 xs i).f5) ∧ w.cell? ⟨(ad.add (i.toNat * 15)).block, (ad.add (i.toNat * 15)).off + 6, none⟩ = some (.int .u16 (rd_T26 xs i).f6) ∧ w.cell? ⟨(ad.add (i.toNat * 15)).block, (ad.add (i.toNat * 15)).off + 7, none⟩ = some (.int .u32 (rd_T26 xs i).f7) ∧ w.cell? ⟨(ad.add (i.toNat * 15)).block, (ad.add (i.toNat * 15)).off + 8, none⟩ = some (.int .u32 (rd_T26 xs i).f8) ∧ w.cell? ⟨(ad.add (i.toNat * 15)).block, (ad.add (i.toNat * 15)).off + 9, none⟩ = some (.int .u32 (rd_T26 xs i).f9) ∧ w.cell? ⟨(ad.add (i.toNat * 15)).block, (ad.add (i.toNat * 15)).off + 10, none⟩ = some (.int .u32 (rd_T26 xs i).f10) ∧ w.cell? ⟨(ad.add (i.toNat * 15)).block, (ad.add (i.toNat * 15)).off + 11, none⟩ = some (.string (rd_T26 xs i).f11) ∧ w.cell? ⟨(ad.add (i.toNat * 15)).block, (ad.add (i.toNat * 15)).off + 12, none⟩ = some (.string (rd_T26 xs i).f12) ∧ w.cell? ⟨(ad.add (i.toNat * 15)).block, (ad.add (i.toNat * 15)).off + 13, none⟩ = some (.string (rd_T26 xs i).f13) ∧ w.cell? ⟨(ad.add (i.toNat * 15)).block, (ad.add (i.toNat * 15)).off + 14, none⟩ = some (.slice A14 (rd_T26 xs i).f14.length c14) ∧ (rd_T26 xs i).f14.length ≤ c14 ∧ k47.C w A14 (rd_T26 xs i).f14.length (rd_T26 xs i).f14 := by
  obtain ⟨ad, c, e, _, hK, hc0⟩ := Kd.C_get h z26 i h0 h1
  have hc : ∀ j u, c[j]? = some u → w.cell? (ad.add (i.toNat * 15 + j)) = some u := hc0
  obtain ⟨A14, c14, rfl, l14, g14⟩ := k26_open hK
  exact ⟨ad, A14, c14, e, hc 0 _ rfl, by rw [← add_field _ _ 1 (by omega)]; exact hc 1 _ rfl, by rw [← add_field _ _ 2 (by omega)]; exact hc 2 _ rfl, by rw [← add_field _ _ 3 (by omega)]; exact hc 3 _ rfl, by rw [← add_field _ _ 4 (by omega)]; exact hc 4 _ rfl, by rw [← add_field _ _ 5 (by omega)]; exact hc 5 _ rfl, by rw [← add_field _ _ 6 (by omega)]; exact hc 6 _ rfl, by rw [← add_field _ _ 7 (by omega)]; exact hc 7 _ rfl, by rw [← add_field _ _ 8 (by omega)]; exact hc 8 _ rfl, by rw [← add_field _ _ 9 (by omega)]; exact hc 9 _ rfl, by rw [← add_field _ _ 10 (by omega)]; exact hc 10 _ rfl, by rw [← add_field _ _ 11 (by omega)]; exact hc 11 _ rfl, by rw [← add_field _ _ 12 (by omega)]; exact hc 12 _ rfl, by rw [← add_field _ _ 13 (by omega)]; exact hc 13 _ rfl, by rw [← add_field _ _ 14 (by omega)]; exact hc 14 _ rfl, l14, g14⟩

def rd_L7 (xs : List (List Int)) (i : Int) : (List Int) := xs.getD i.toNat ([] : List Int)
theorem at_L7 {w : World} {A : Option Addr} {n : Nat} {xs : List (List Int)} (h : Kd.C (Kd.slice 5 (Kd.int .u8)) w A n xs) (i : Int) (h0 : 0 ≤ i) (h1 : i < n) : ∃ ad A0 c0, A = some ad ∧ w.cell? (ad.add i.toNat) = some (.slice A0 (rd_L7 xs i).length c0) ∧ (rd_L7 xs i).length ≤ c0 ∧ (Kd.int .u8).C w A0 (rd_L7 xs i).length (rd_L7 xs i) := by
  obtain ⟨ad, c, e, _, hK, hc0⟩ := Kd.C_get h ([] : List Int) i h0 h1
  have hc : ∀ j u, c[j]? = some u → w.cell? (ad.add (i.toNat * 1 + j)) = some u := hc0
  obtain ⟨A0, c0, rfl, l0, g0⟩ := hK
  exact ⟨ad, A0, c0, e, by have hq := hc 0 _ rfl; rwa [Nat.mul_one, Nat.add_zero] at hq, l0, g0⟩

/-! ### opt4.has, its literal, and slices.IndexFunc, ContainsFunc over it: by hand -/
def idxOf (c : Int) : List S47 → Nat → Int
  | [], _ => -1
  | x :: l, i => if x.f0 = c then (i : Int) else idxOf c l (i + 1)
theorem idxOf_at (c : Int) : ∀ (l : List S47) (i j : Nat), j < l.length → (∀ q, q < j → (l.getD q z47).f0 ≠ c) → (l.getD j z47).f0 = c → idxOf c l i = ((i + j : Nat) : Int)
  | [], i, j, h, _, _ => by simp at h
  | x :: l, i, 0, h, _, h2 => by
    have : x.f0 = c := by simpa using h2
    rw [idxOf, if_pos this]; rfl
  | x :: l, i, j + 1, h, h1, h2 => by
    have h0 : ¬ x.f0 = c := by simpa using h1 0 (by omega)
    rw [idxOf, if_neg h0, idxOf_at c l (i + 1) j (by simpa using h) (fun q hq => by simpa using h1 (q + 1) (by omega)) (by simpa using h2)]
    congr 1; omega
theorem idxOf_none (c : Int) : ∀ (l : List S47) (i : Nat), (∀ q, q < l.length → (l.getD q z47).f0 ≠ c) → idxOf c l i = -1
  | [], i, _ => rfl
  | x :: l, i, h1 => by
    have h0 : ¬ x.f0 = c := by simpa using h1 0 (by simp)
    rw [idxOf, if_neg h0]
    exact idxOf_none c l (i + 1) (fun q hq => by simpa using h1 (q + 1) (by simpa using hq))

/-- The closure's value: its captured code lies at block g. -/
def cloV (g : Nat) : Value := .func (.func 56) #[] #[.pointer (some ⟨g, 0, none⟩)]
theorem has_lit (c code : Int) (d : ByteArray) (g : Nat) (w : World) (hg : w.heap[g]? = some (.cells #[.int .u8 code] 5 (0, 0))) :
    Calls Try.prog 56 #[.agg #[.int .u8 c, .string d], .pointer (some ⟨g, 0, none⟩)] w fun e w' => e = .returned (.bool (c == code)) ∧ Below w.heap.size w w' := by
  have hlt : g < w.heap.size := blk_lt hg
  have hc : w.cell? ⟨g, 0, none⟩ = some (.int .u8 code) := (blk_cell hg 0).trans rfl
  have hu := Try.underlying47
  have hc2 : ∀ o, (w.alloc o).cell? ⟨g, 0, none⟩ = some (.int .u8 code) := fun o => (World.cell?_of_block (Below.heap_alloc w o g hlt)).trans hc
  clear hc
  have HG := Aside0.mk hg
  have HL := Aside0.mk hlt
  clear hg hlt
  go_enter Try.func56, Try.ntmps56
  go_wp2
  go_ret
  exact ⟨rfl, below_alloc (Below.refl _ _) _⟩
theorem has_makes (c : Int) (w : World) :
    Calls Try.prog 40 #[.int .u8 c] w fun e w' => ∃ g, e = .returned (cloV g) ∧ w'.heap[g]? = some (.cells #[.int .u8 c] 5 (0, 0)) ∧ w.heap.size ≤ g ∧ Below w.heap.size w w' := by
  go_enter Try.func40, Try.ntmps40
  go_wp2
  go_ret
  refine ⟨w.heap.size, rfl, ?_, Nat.le_refl _, below_alloc (Below.refl _ _) _⟩
  exact heap_alloc_new w _
theorem enters_has : ∀ args w, (callFunc 56 args).run Try.prog w = .ok (.enter 56 args) w := fun args w => enters_ Try.func56 (by kernel_rfl) rfl args w
set_option maxHeartbeats 1000000 in
theorem index_has (code : Int) (g : Nat) (A : Option Addr) (n c : Nat) (l : List S47) (w : World) (hr : Kd.C k47 w A n l) (hg : w.heap[g]? = some (.cells #[.int .u8 code] 5 (0, 0))) :
    Calls Try.prog 51 #[.slice A n c, cloV g] w fun e w' => e = .returned (.int .i64 (idxOf code l 0)) ∧ Below w.heap.size w w' := by
  have hn : n ≤ 9223372036854775807 := Kd.C_max hr
  have hln : l.length = n := Kd.C_len hr
  have HLN := Lib.hid hln
  clear hln
  have HR := Aside0.mk hr
  have HG := Aside0.mk hg
  clear hr hg
  unfold cloV
  have hu := Try.underlying47
  have eg := enters_has
  go_enter Try.func51, Try.ntmps51
  go_wp2
  go_loopg [5, 8] n (fun gg _ s8 wr => ∃ kk : Nat, kk ≤ n ∧ n - kk ≤ gg ∧ s8 = .int .i64 kk ∧ Aside0 (Below w.heap.size w wr) ∧ Aside0 (∀ q, q < kk → (l.getD q z47).f0 ≠ code))
  case atStart => exact ⟨0, Nat.zero_le _, by omega, rfl, ⟨Below.refl _ w⟩, ⟨fun j hj => absurd hj (Nat.not_lt_zero _)⟩⟩
  case round =>
    obtain ⟨kk, hkk, hgk, rfl, BW, AL⟩ := hrel
    by_cases hlt : kk < n
    · have hltz : (kk : Int) < (n : Int) := by omega
      obtain ⟨ad, rfl, hc0, hc1⟩ := at_T47 (Kd.C_below HR.out BW.out) (kk : Int) (by omega) hltz
      simp only [Int.toNat_natCast] at hc0 hc1
      have hcall := has_lit (rd_T47 l kk).f0 code (rd_T47 l kk).f1 g wr ((BW.out.block g (blk_lt HG.out)).trans HG.out)
      have hrd : rd_T47 l kk = l.getD kk z47 := rfl
      have HRD := Lib.hid hrd
      clear hrd
      by_cases hq : (rd_T47 l kk).f0 = code
      · have hqb : ((rd_T47 l kk).f0 == code) = true := beq_iff_eq.2 hq
        rw [hqb] at hcall
        have HQ := Lib.hid hq
        clear hq hqb
        go_wp2_with (go_at_call 56; refine hcall.mono ?_; rintro e w' ⟨rfl, hb'⟩)
        go_ret
        rename_i w' hb'
        refine ⟨?_, below_step BW.out hb'⟩
        rw [idxOf_at code l 0 kk (by rw [HLN.out]; exact hlt) AL.out (by rw [← HRD.out]; exact HQ.out), Nat.zero_add]
        rfl
      · have hqb : ((rd_T47 l kk).f0 == code) = false := beq_eq_false_iff_ne.2 hq
        rw [hqb] at hcall
        have HQ := Aside0.mk hq
        clear hq hqb
        go_wp2_with (go_at_call 56; refine hcall.mono ?_; rintro e w' ⟨rfl, hb'⟩)
        go_roundg (n - (kk + 1))
        case measure => omega
        case rel =>
          rename_i w' hb'
          refine ⟨kk + 1, by omega, Nat.le_refl _, by go_num, ⟨below_step BW.out hb'⟩, ⟨fun q hq => ?_⟩⟩
          by_cases e : q = kk
          · subst e; rw [← HRD.out]; exact HQ.out
          · exact AL.out q (by omega)
    · have hltz : ¬ (kk : Int) < (n : Int) := by omega
      obtain rfl : kk = n := by omega
      go_wp2
      go_ret
      refine ⟨?_, BW.out⟩
      rw [idxOf_none code l 0 (by rw [HLN.out]; exact AL.out)]
      rfl
theorem contains_has (code : Int) (g : Nat) (A : Option Addr) (n c : Nat) (l : List S47) (w : World) (hr : Kd.C k47 w A n l) (hg : w.heap[g]? = some (.cells #[.int .u8 code] 5 (0, 0))) :
    Calls Try.prog 39 #[.slice A n c, cloV g] w fun e w' => e = .returned (.bool (decide (0 ≤ idxOf code l 0))) ∧ Below w.heap.size w w' := by
  have hi := index_has code g A n c l w hr hg
  clear hr hg
  unfold cloV at hi ⊢
  go_enter Try.func39, Try.ntmps39
  go_wp2_with (go_at_call 51; refine hi.mono ?_; rintro e w' ⟨rfl, hb'⟩)
  go_ret
  exact ⟨rfl, by assumption⟩

def hascon.f (a0 : Int) (l0 : List S47) : Option Bool := some (decide (0 ≤ idxOf a0 l0 0))
theorem hascon.calls (a0 : Int) (A0 : Option Addr) (c0 : Nat) (l0 : List S47) (r : Bool) (w : World) (hr0 : Kd.C k47 w A0 l0.length l0) (hc0 : l0.length ≤ c0) (h : hascon.f a0 l0 = some r) :
    XRun.Calls2 Try.prog 40 #[.int .u8 a0] 39 (fun v_ => #[.slice A0 l0.length c0, v_]) w fun e w' => e = .returned (.bool r) ∧ Below w.heap.size w w' := by
  obtain rfl := Option.some.inj h
  refine (has_makes a0 w).mono ?_
  rintro e w1 ⟨g, rfl, hg, hgw, hb⟩
  refine ⟨_, rfl, (contains_has a0 g A0 l0.length c0 l0 w1 (Kd.C_below hr0 hb) hg).mono ?_⟩
  rintro e w2 ⟨rfl, hb2⟩
  exact ⟨rfl, below_step hb hb2⟩
theorem hascon.second (a0 : Int) (A0 : Option Addr) (c0 : Nat) (l0 : List S47) (r : Bool) (w : World) (hr0 : Kd.C k47 w A0 l0.length l0) (hc0 : l0.length ≤ c0) (g : Nat) (hg : w.heap[g]? = some (.cells #[.int .u8 a0] 5 (0, 0))) (h : hascon.f a0 l0 = some r) :
    Calls Try.prog 39 #[.slice A0 l0.length c0, cloV g] w fun e w' => e = .returned (.bool r) ∧ Below w.heap.size w w' := by
  obtain rfl := Option.some.inj h
  exact contains_has a0 g A0 l0.length c0 l0 w hr0 hg

/-! has and slices.IndexFunc, ContainsFunc, as one -/
def hasix.f (a0 : Int) (l0 : List S47) : Option Int := some (idxOf a0 l0 0)
theorem hasix.calls (a0 : Int) (A0 : Option Addr) (c0 : Nat) (l0 : List S47) (r : Int) (w : World) (hr0 : Kd.C k47 w A0 l0.length l0) (hc0 : l0.length ≤ c0) (h : hasix.f a0 l0 = some r) :
    XRun.Calls2 Try.prog 40 #[.int .u8 a0] 51 (fun v_ => #[.slice A0 l0.length c0, v_]) w fun e w' => e = .returned (.int .i64 r) ∧ Below w.heap.size w w' := by
  obtain rfl := Option.some.inj h
  refine (has_makes a0 w).mono ?_
  rintro e w1 ⟨g, rfl, hg, hgw, hb⟩
  refine ⟨_, rfl, (index_has a0 g A0 l0.length c0 l0 w1 (Kd.C_below hr0 hb) hg).mono ?_⟩
  rintro e w2 ⟨rfl, hb2⟩
  exact ⟨rfl, below_step hb hb2⟩
theorem hasix.second (a0 : Int) (A0 : Option Addr) (c0 : Nat) (l0 : List S47) (r : Int) (w : World) (hr0 : Kd.C k47 w A0 l0.length l0) (hc0 : l0.length ≤ c0) (g : Nat) (hg : w.heap[g]? = some (.cells #[.int .u8 a0] 5 (0, 0))) (h : hasix.f a0 l0 = some r) :
    Calls Try.prog 51 #[.slice A0 l0.length c0, cloV g] w fun e w' => e = .returned (.int .i64 r) ∧ Below w.heap.size w w' := by
  obtain rfl := Option.some.inj h
  exact index_has a0 g A0 l0.length c0 l0 w hr0 hg

/-- A string made a slice of bytes that is read: types 9 to 39. -/
def conv9_39.f (a0 : ByteArray) : Option (List Int) := if a0.size ≤ 9223372036854775807 then some (bytesOf a0) else none
theorem conv9_39.calls (a0 : ByteArray) (r : List Int) (w : World) (h : conv9_39.f a0 = some r) : XRun.ConvDone 5 a0 w fun e w' => ∃ v0_ : Value, e = .returned (v0_) ∧ Kd.V (Kd.int .u8) 5 w' w.heap.size (fun k_ => w.heap.size ≤ k_) v0_ r ∧ Below w.heap.size w w' := by
  unfold conv9_39.f at h
  split at h
  · obtain rfl := Option.some.inj h
    exact XRun.conv_done 5 a0 w ‹_›
  · cases h

def wf47 (x : S47) : Prop := ((Lit.int .u8 x.f0).wf = true) ∧ (x.f1.size ≤ 140737488351232)
theorem opens47 : XRow.Opens Try.prog 47 k47 wf47 := XRow.opens_iso (fun x_ : S47 => (x_.f0, x_.f1)) (fun p_ => ⟨p_.1, p_.2⟩) (fun _ => rfl) (XRow.opens_struct (total := 2) Try.underlying47 (by kernel_rfl) (XRow.opensF_cons (k := 1) rfl (by kernel_rfl) (by decide) (by decide) (XRow.opens_int Try.underlying5) (XRow.opensF_one rfl (by kernel_rfl) (XRow.opens_string Try.underlying9))))
def wf26 (x : S26) : Prop := ((Lit.int .u8 x.f0).wf = true) ∧ ((Lit.int .u8 x.f1).wf = true) ∧ ((Lit.int .u8 x.f2).wf = true) ∧ ((Lit.int .u8 x.f3).wf = true) ∧ ((Lit.int .u32 x.f4).wf = true) ∧ ((Lit.int .u16 x.f5).wf = true) ∧ ((Lit.int .u16 x.f6).wf = true) ∧ ((Lit.int .u32 x.f7).wf = true) ∧ ((Lit.int .u32 x.f8).wf = true) ∧ ((Lit.int .u32 x.f9).wf = true) ∧ ((Lit.int .u32 x.f10).wf = true) ∧ (x.f11.size ≤ 140737488351232) ∧ (x.f12.size ≤ 140737488351232) ∧ (x.f13.size ≤ 140737488351232) ∧ (x.f14.length * 24 ≤ 140737488351232 ∧ ∀ y_ ∈ x.f14, wf47 y_)
theorem opens26 : XRow.Opens Try.prog 26 k26 wf26 := XRow.opens_iso (fun x_ : S26 => (x_.f0, x_.f1, x_.f2, x_.f3, x_.f4, x_.f5, x_.f6, x_.f7, x_.f8, x_.f9, x_.f10, x_.f11, x_.f12, x_.f13, x_.f14)) (fun p_ => ⟨p_.1, p_.2.1, p_.2.2.1, p_.2.2.2.1, p_.2.2.2.2.1, p_.2.2.2.2.2.1, p_.2.2.2.2.2.2.1, p_.2.2.2.2.2.2.2.1, p_.2.2.2.2.2.2.2.2.1, p_.2.2.2.2.2.2.2.2.2.1, p_.2.2.2.2.2.2.2.2.2.2.1, p_.2.2.2.2.2.2.2.2.2.2.2.1, p_.2.2.2.2.2.2.2.2.2.2.2.2.1, p_.2.2.2.2.2.2.2.2.2.2.2.2.2.1, p_.2.2.2.2.2.2.2.2.2.2.2.2.2.2⟩) (fun _ => rfl) (XRow.opens_struct (total := 15) Try.underlying26 (by kernel_rfl) (XRow.opensF_cons (k := 1) rfl (by kernel_rfl) (by decide) (by decide) (XRow.opens_int Try.underlying5) (XRow.opensF_cons (k := 1) rfl (by kernel_rfl) (by decide) (by decide) (XRow.opens_int Try.underlying5) (XRow.opensF_cons (k := 1) rfl (by kernel_rfl) (by decide) (by decide) (XRow.opens_int Try.underlying5) (XRow.opensF_cons (k := 1) rfl (by kernel_rfl) (by decide) (by decide) (XRow.opens_int Try.underlying5) (XRow.opensF_cons (k := 1) rfl (by kernel_rfl) (by decide) (by decide) (XRow.opens_int Try.underlying22) (XRow.opensF_cons (k := 1) rfl (by kernel_rfl) (by decide) (by decide) (XRow.opens_int Try.underlying23) (XRow.opensF_cons (k := 1) rfl (by kernel_rfl) (by decide) (by decide) (XRow.opens_int Try.underlying23) (XRow.opensF_cons (k := 1) rfl (by kernel_rfl) (by decide) (by decide) (XRow.opens_int Try.underlying22) (XRow.opensF_cons (k := 1) rfl (by kernel_rfl) (by decide) (by decide) (XRow.opens_int Try.underlying22) (XRow.opensF_cons (k := 1) rfl (by kernel_rfl) (by decide) (by decide) (XRow.opens_int Try.underlying22) (XRow.opensF_cons (k := 1) rfl (by kernel_rfl) (by decide) (by decide) (XRow.opens_int Try.underlying22) (XRow.opensF_cons (k := 1) rfl (by kernel_rfl) (by decide) (by decide) (XRow.opens_string Try.underlying9) (XRow.opensF_cons (k := 1) rfl (by kernel_rfl) (by decide) (by decide) (XRow.opens_string Try.underlying9) (XRow.opensF_cons (k := 1) rfl (by kernel_rfl) (by decide) (by decide) (XRow.opens_string Try.underlying9) (XRow.opensF_one rfl (by kernel_rfl) (XRow.opens_slice (B := 24) Try.underlying24 (by kernel_rfl) (by kernel_rfl) opens47)))))))))))))))))
end Go.Proofs.Ytdhmlenmnobmfaa.X
