/- The plain statement of Wire4Back: messages there and back: no condition. -/
import Derived.Test.YtdhmlenmnobmfaaG0
import Derived.Test.YtdhmlenmnobmfaaG1
import Derived.Test.YtdhmlenmnobmfaaG2
import Derived.Test.YtdhmlenmnobmfaaG3
import Derived.Test.YtdhmlenmnobmfaaG6
import Derived.Laws.BitsAllLaws
import Derived.Lib.Strings
import Derived.Test.YtdhmlenmnobmfaaXWb
set_option linter.unusedVariables false
set_option linter.unusedSimpArgs false
namespace Go.Proofs.Ytdhmlenmnobmfaa.Pure
open Go.RowKit Go.Proofs.YtdhmlenmnobmfaaW.PrintWords Go.Proofs.YtdhmlenmnobmfaaW.PrintLast Go.Proofs.YtdhmlenmnobmfaaW.PrintMore Go.Proofs.Ytdhmlenmnobmfaa.X Go.Proofs.Ytdhmlenmnobmfaa.Oct Go.Proofs.Ytdhmlenmnobmfaa.Opt Go.Proofs.Ytdhmlenmnobmfaa.W4
theorem decode_eq2 {k : Nat} (hk : 211000 ≤ k) (s : ByteArray) (n : S26) (e : Int) (h : decV s = (n, e)) :
    wire4_Decode.f k s = some (n.f0, n.f1, n.f2, n.f3, n.f4, n.f5, n.f6, n.f7, n.f8, n.f9, n.f10, n.f11, n.f12, n.f13, n.f14, e) := by
  rw [decode_eq hk s, h]; rfl
theorem nil_list : (⟨#[]⟩ : ByteArray).toList = [] := by rw [toList_L]; rfl
theorem j0_true {k : Nat} (hk : 220000 ≤ k) (s : ByteArray) : tenancylaw14_Wire4Back.j0 (k + 1) s = some true := by
  rcases hp : decV s with ⟨n, e⟩
  have hg : e = 0 → _ := fun h => dec_good (s := s) (by rw [hp]; exact h)
  have hw : ¬ e = 0 → _ := fun h => dec_err (s := s) (by rw [hp]; exact h)
  rw [hp] at hg hw
  rw [tenancylaw14_Wire4Back.j0, decode_eq2 (by omega) s n e hp, Option.bind_some]
  dsimp only at hg hw ⊢
  by_cases h : e = 0
  · rw [if_pos h]
    by_cases hb : (s.size : Int) > 65251
    · rw [if_pos hb]
    · rw [if_neg hb]
      obtain ⟨hK, hs, hl⟩ := hg h
      have hlen : n.f14.length ≤ 128 := (emitV_good hK.2.2.2.2.2.2.2.2.2 (soundV_iff.1 hs).2.2.2.2).1.1
      have hl2 : (encL n).length ≤ 65507 := by omega
      have hv : encV n = (B (encL n), 0) := by unfold encV; rw [if_pos hs, if_neg (by omega)]
      rw [encode_eq n hK (by omega), hv, Option.bind_some]
      dsimp only
      rw [decode_eq2 (by omega) (B (encL n)) n 0 (back hK hs hl2), Option.bind_some]
      dsimp only
      rw [if_pos rfl, if_pos rfl, same_true n, Option.bind_some]
  · rw [if_neg h, hw h]
    have hsm := same_true (k := k) zM
    unfold zM at hsm ⊢
    dsimp only at hsm ⊢
    rw [hsm, Option.bind_some]
theorem Wire4Back : tenancylaw14_Wire4Back.Pure := by
  intro m s hm _
  have hK := kinds_wf hm
  obtain ⟨k, hk⟩ : ∃ k, k = 60 * m.f14.length + 300000 := ⟨_, rfl⟩
  refine ⟨k + 1, ?_⟩
  unfold tenancylaw14_Wire4Back.f
  rw [awake_true (by omega), Option.bind_some, if_pos rfl, encode_eq m hK (by omega), Option.bind_some]
  by_cases hs : soundV m = true
  · have hgd := (emitV_good hK.2.2.2.2.2.2.2.2.2 (soundV_iff.1 hs).2.2.2.2).1
    have hlen := encL_length hs hgd
    by_cases hl : 65507 < (encL m).length
    · have hv : encV m = (⟨#[]⟩, 6) := by unfold encV; rw [if_pos hs, if_pos hl]
      rw [hv]
      dsimp only
      rw [if_neg (by decide), if_pos nil_list, sound_eq m (by omega), hs, Option.bind_some, if_neg (by decide)]
      exact j0_true (by omega) s
    · have hv : encV m = (B (encL m), 0) := by unfold encV; rw [if_pos hs, if_neg hl]
      rw [hv]
      dsimp only
      rw [if_pos rfl, decode_eq2 (by omega) (B (encL m)) m 0 (back hK hs (by omega)), Option.bind_some]
      dsimp only
      rw [if_pos rfl, same_true m, Option.bind_some, if_pos rfl, if_neg (by rw [size_B]; omega), if_neg (by rw [size_B]; omega)]
      exact j0_true (by omega) s
  · have hv : encV m = (⟨#[]⟩, 141) := by unfold encV; rw [if_neg hs]
    rw [hv]
    dsimp only
    rw [if_neg (by decide), if_pos nil_list, sound_eq m (by omega), Bool.eq_false_iff.mpr hs, Option.bind_some, if_neg (by decide)]
    exact j0_true (by omega) s
end Go.Proofs.Ytdhmlenmnobmfaa.Pure
