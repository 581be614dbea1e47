/- The plain statement of Wire4Encodes: both ways of writing a message come to one: no condition. -/
import Derived.Test.YtdhmlenmnobmfaaG0
import Derived.Test.YtdhmlenmnobmfaaG1
import Derived.Test.YtdhmlenmnobmfaaG2
import Derived.Test.YtdhmlenmnobmfaaG3
import Derived.Test.YtdhmlenmnobmfaaG4
import Derived.Test.YtdhmlenmnobmfaaG5
import Derived.Laws.BitsAllLaws
import Derived.Lib.Strings
import Derived.Test.YtdhmlenmnobmfaaXWk
import Derived.Test.YtdhmlenmnobmfaaXWiR
set_option linter.unusedVariables false
set_option linter.unusedSimpArgs false
namespace Go.Proofs.Ytdhmlenmnobmfaa.Pure
open Go.RowKit Go.Proofs.YtdhmlenmnobmfaaW.PrintWords Go.Proofs.YtdhmlenmnobmfaaW.PrintLast Go.Proofs.YtdhmlenmnobmfaaW.PrintMore Go.Proofs.Ytdhmlenmnobmfaa.X Go.Proofs.Ytdhmlenmnobmfaa.Oct Go.Proofs.Ytdhmlenmnobmfaa.Opt Go.Proofs.Ytdhmlenmnobmfaa.W4
theorem rzeros16 : tenancyref14_zeros.f 16 = some z16 := by decide +kernel
theorem rzeros64 : tenancyref14_zeros.f 64 = some z64 := by decide +kernel
theorem rzeros128 : tenancyref14_zeros.f 128 = some z128 := by decide +kernel
theorem rblank_eq : tenancyref14_Blank.f = some (0, 0, 0, 0, 0, 0, 0, 0, 0, 0, 0, z16, z64, z128, []) := by
  unfold tenancyref14_Blank.f
  rw [rzeros16, Option.bind_some, rzeros64, Option.bind_some, rzeros128, Option.bind_some]
set_option maxHeartbeats 1000000 in
theorem rencode_eq {k : Nat} (m : S26) (hK : Kinds m) (hk : 60 * m.f14.length + 200 ≤ k) : tenancyref14_Encode.f k m.f0 m.f1 m.f2 m.f3 m.f4 m.f5 m.f6 m.f7 m.f8 m.f9 m.f10 m.f11 m.f12 m.f13 m.f14 = some (encV m) := by
  obtain ⟨h0, h4, h5, h6, h7, h8, h9, h10, hl, hw⟩ := id hK
  unfold tenancyref14_Encode.f encV
  rw [rsound_eq m hl hk, Option.bind_some]
  by_cases hs : soundV m = true
  · have hem := (soundV_iff.1 hs).2.2.2.2
    have hg := (emitV_good hw hem).1
    have hes : (emitV m.f14).1.size ≤ 700000 := by
      rw [(emitV_good hw hem).2, size_B, List.length_append]
      have := (out_bytes hg).2
      simp; omega
    obtain ⟨g1, g2, g3, _⟩ := soundV_iff.1 hs
    have hb := body_eq m hK hem
    rw [if_pos hs, if_pos hs, remit_eqV m.f14 hk, Option.bind_some, Option.bind_some, rPut32 (by omega) _ h4.1 h4.2, Option.bind_some, if_pos (by simp only [ByteArray.size_append, strOfNums_size, size_B, be4_length, be2_length, List.length_cons, List.length_nil]; omega),
      rPut16 (by omega) _ h5.1 h5.2, Option.bind_some, if_pos (by simp only [ByteArray.size_append, strOfNums_size, size_B, be4_length, be2_length, List.length_cons, List.length_nil]; omega),
      rPut16 (by omega) _ h6.1 h6.2, Option.bind_some, if_pos (by simp only [ByteArray.size_append, strOfNums_size, size_B, be4_length, be2_length, List.length_cons, List.length_nil]; omega),
      rPut32 (by omega) _ h7.1 h7.2, Option.bind_some, if_pos (by simp only [ByteArray.size_append, strOfNums_size, size_B, be4_length, be2_length, List.length_cons, List.length_nil]; omega),
      rPut32 (by omega) _ h8.1 h8.2, Option.bind_some, if_pos (by simp only [ByteArray.size_append, strOfNums_size, size_B, be4_length, be2_length, List.length_cons, List.length_nil]; omega),
      rPut32 (by omega) _ h9.1 h9.2, Option.bind_some, if_pos (by simp only [ByteArray.size_append, strOfNums_size, size_B, be4_length, be2_length, List.length_cons, List.length_nil]; omega),
      rPut32 (by omega) _ h10.1 h10.2, Option.bind_some, if_pos (by simp only [ByteArray.size_append, strOfNums_size, size_B, be4_length, be2_length, List.length_cons, List.length_nil]; omega),
      if_pos (by simp only [ByteArray.size_append, strOfNums_size, size_B, be4_length, be2_length, List.length_cons, List.length_nil]; omega),
      if_pos (by simp only [ByteArray.size_append, strOfNums_size, size_B, be4_length, be2_length, List.length_cons, List.length_nil]; omega),
      if_pos (by simp only [ByteArray.size_append, strOfNums_size, size_B, be4_length, be2_length, List.length_cons, List.length_nil]; omega),
      if_pos (by simp only [ByteArray.size_append, strOfNums_size, size_B, be4_length, be2_length, List.length_cons, List.length_nil]; omega),
      if_pos (by simp only [ByteArray.size_append, strOfNums_size, size_B, be4_length, be2_length, List.length_cons, List.length_nil, show (⟨#[99, 130, 83, 99]⟩ : ByteArray).size = 4 from rfl]; omega)]
    rw [hb]
    by_cases hb2 : 65507 < (encL m).length
    · rw [if_pos (by rw [size_B]; omega), if_pos hb2]
    · rw [if_neg (by rw [size_B]; omega), if_neg hb2]
  · rw [if_neg hs, if_neg hs]
theorem Wire4Encodes : tenancylaw14_Wire4Encodes.Pure := by
  intro m hm
  have hK := kinds_wf hm
  refine ⟨60 * m.f14.length + 300000, ?_⟩
  unfold tenancylaw14_Wire4Encodes.f
  rw [awake_true (by omega), Option.bind_some, if_pos rfl, blank_eq, Option.bind_some, rblank_eq, Option.bind_some]
  have hs := same_true (k := 60 * m.f14.length + 300000) (⟨0, 0, 0, 0, 0, 0, 0, 0, 0, 0, 0, z16, z64, z128, []⟩ : S26)
  dsimp only at hs ⊢
  rw [hs, Option.bind_some, if_pos rfl, encode_eq m hK (by omega), Option.bind_some, rencode_eq m hK (by omega), Option.bind_some, if_pos rfl, if_pos rfl, sound_eq m (by omega), Option.bind_some, rsound_eq m hK.2.2.2.2.2.2.2.2.1 (by omega), Option.bind_some, beq_self_eq_true]
end Go.Proofs.Ytdhmlenmnobmfaa.Pure
