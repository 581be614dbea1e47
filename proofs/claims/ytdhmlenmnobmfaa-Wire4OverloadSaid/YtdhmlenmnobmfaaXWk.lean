/- The law's fixed answers hold, and what two messages' comparison comes to: plain lemmas; no condition. -/
import Derived.Test.YtdhmlenmnobmfaaG0
import Derived.Test.YtdhmlenmnobmfaaG1
import Derived.Test.YtdhmlenmnobmfaaG2
import Derived.Test.YtdhmlenmnobmfaaG3
import Derived.Laws.BitsAllLaws
import Derived.Lib.Strings
import Derived.Test.YtdhmlenmnobmfaaXWj
set_option linter.unusedVariables false
set_option linter.unusedSimpArgs false
namespace Go.Proofs.Ytdhmlenmnobmfaa.W4
open Go.RowKit Go.Proofs.YtdhmlenmnobmfaaW.PrintWords Go.Proofs.YtdhmlenmnobmfaaW.PrintLast Go.Proofs.YtdhmlenmnobmfaaW.PrintMore Go.Proofs.Ytdhmlenmnobmfaa.X Go.Proofs.Ytdhmlenmnobmfaa.Oct Go.Proofs.Ytdhmlenmnobmfaa.Opt

def z16 : ByteArray := B (List.replicate 16 0)
def z64 : ByteArray := B (List.replicate 64 0)
def z128 : ByteArray := B (List.replicate 128 0)
theorem blank_eq : wire4_Blank.f = some (0, 0, 0, 0, 0, 0, 0, 0, 0, 0, 0, z16, z64, z128, []) := by
  unfold wire4_Blank.f
  rw [zeros16, Option.bind_some, zeros64, Option.bind_some, zeros128, Option.bind_some]; rfl
/-- The message that the fixed answers begin with. -/
def m1 : S26 := ⟨1, 0, 0, 0, 0, 0, 0, 0, 0, 0, 0, z16, z64, z128, []⟩
theorem m1_kinds : Kinds m1 := by
  unfold Kinds m1
  simp
theorem m1_sound : soundV m1 = true := by decide +kernel
def e1 : ByteArray := B (encL m1)
theorem m1_enc : encV m1 = (e1, 0) := by
  unfold encV
  rw [if_pos m1_sound, if_neg (by decide +kernel)]; rfl
theorem e1_size : e1.size = 241 := by decide +kernel
theorem e1_tail : (e1.extract 236 241).toList = [99, 130, 83, 99, 255] := by decide +kernel
def x1 : ByteArray := tenancylaw14_awake.s (e1.extract 0 240) ++ (⟨#[52, 1, 1, 255]⟩ : ByteArray)
def x2 : ByteArray := tenancylaw14_awake.s (e1.extract 0 240) ++ (⟨#[52, 1, 4, 255]⟩ : ByteArray)
theorem x_dec : (decV x1).2 = 0 ∧ (decV x2).2 = 130 ∧ (decV x1).1.f14.length = 1 ∧ (rd_T47 (decV x1).1.f14 0).f0 = 12 ∧ (rd_T47 (decV x1).1.f14 0).f1 = (⟨#[97]⟩ : ByteArray) ∧ (decV x1).1.f13 = z128 ∧ (decV x1).1.f0 = 1 := by decide +kernel
theorem awake_true {k : Nat} (hk : 211000 ≤ k) : tenancylaw14_awake.f k = some true := by
  unfold tenancylaw14_awake.f
  rw [blank_eq, Option.bind_some]
  have he := encode_eq (k := k) m1 m1_kinds (by show 60 * 0 + 60 ≤ k; omega)
  have hs := sound_eq (k := k) m1 (by show 60 * 0 + 60 ≤ k; omega)
  rw [m1_enc] at he
  rw [m1_sound] at hs
  have he2 : wire4_Encode.f k 1 0 0 0 0 0 0 0 0 0 0 z16 z64 z128 [] = some (e1, 0) := he
  have hs2 : wire4_Sound.f k 1 0 0 0 0 0 0 0 0 0 0 z16 z64 z128 [] = some true := hs
  dsimp only
  rw [he2, Option.bind_some, hs2, Option.bind_some, if_pos ⟨rfl, e1_size, e1_tail, rfl⟩]
  dsimp only
  rw [show tenancylaw14_awake.s (e1.extract 0 240) ++ (⟨#[52, 1, 1, 255]⟩ : ByteArray) = x1 from rfl, show tenancylaw14_awake.s (e1.extract 0 240) ++ (⟨#[52, 1, 4, 255]⟩ : ByteArray) = x2 from rfl,
    decode_eq hk x1, Option.bind_some, decode_eq hk x2, Option.bind_some]
  have hx := x_dec
  generalize decV x1 = d1 at hx ⊢
  generalize decV x2 = d2 at hx ⊢
  exact if_pos hx
theorem same_true {k : Nat} (m : S26) : tenancylaw14_same.f k m.f0 m.f1 m.f2 m.f3 m.f4 m.f5 m.f6 m.f7 m.f8 m.f9 m.f10 m.f11 m.f12 m.f13 m.f14 m.f0 m.f1 m.f2 m.f3 m.f4 m.f5 m.f6 m.f7 m.f8 m.f9 m.f10 m.f11 m.f12 m.f13 m.f14 = some true := by
  unfold tenancylaw14_same.f
  rw [if_pos ⟨⟨rfl, rfl, rfl, rfl, rfl, rfl, rfl, rfl, rfl, rfl, rfl, rfl, rfl, rfl⟩, rfl⟩]
end Go.Proofs.Ytdhmlenmnobmfaa.W4
