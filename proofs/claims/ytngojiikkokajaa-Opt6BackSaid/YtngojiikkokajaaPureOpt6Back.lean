/- Opt6Back: no condition. -/
import Derived.Test.YtngojiikkokajaaG0
import Derived.Test.YtngojiikkokajaaG1
import Derived.Test.YtngojiikkokajaaG2
import Derived.Test.YtngojiikkokajaaG3
import Derived.Test.YtngojiikkokajaaG4
import Derived.Test.YtngojiikkokajaaG5
import Derived.Test.YtngojiikkokajaaG17
import Derived.Laws.BitsAllLaws
import Derived.Lib.Strings
import Derived.Test.YtngojiikkokajaaXO6
set_option linter.unusedVariables false
namespace Go.Proofs.Ytngojiikkokajaa.Pure
open Go Go.RowKit Go.Proofs.YtngojiikkokajaaW.PrintWords Go.Proofs.YtngojiikkokajaaW.PrintLast Go.Proofs.YtngojiikkokajaaW.PrintMore Go.Proofs.Ytngojiikkokajaa.X Go.Proofs.Ytngojiikkokajaa.Oct Go.Proofs.Ytngojiikkokajaa.O6
theorem back_j0 (code : Int) (data : ByteArray) (hd : data.size ≤ 140737488355328) (k : Nat) (hk : 600 ≤ k) : tenancylaw15_Opt6Back.j0 k code data = some true := by
  obtain ⟨k, rfl⟩ : ∃ m, k = m + 1 := ⟨k - 1, by omega⟩
  rw [tenancylaw15_Opt6Back.j0, get_f _ _ (by omega), Option.bind_some]
  rcases gI_read code (L data) with ⟨e, he, h⟩ | ⟨kind, i, p, q, hs, c, h, hsn, hok, hi, hp, hq, hl⟩
  · rw [h]
    dsimp only
    rw [if_neg he, ias_true _ _ _ _ _ _ (by simp) k (by simp; omega), Option.bind_some]
  · obtain ⟨s1, s2, s3, s4⟩ := sndS_in hsn
    rw [h]
    dsimp only
    rw [if_pos rfl, put_f _ _ _ _ _ _ hok hi hp hq, if_pos hsn, Option.bind_some, get_f _ _ (by rw [size_B]; rw [← size_L] at hl; omega), L_B, gI_put _ _ _ _ _ _ hsn hok hi hp hq, Option.bind_some, if_pos rfl, if_pos rfl, ias_true _ _ _ _ _ _ (by omega) k (by omega), Option.bind_some, if_pos rfl, sound_f _ _ _ _ _ _ hok, hsn, Option.bind_some, if_pos rfl, decide_eq_true (by rw [size_B]; rw [← size_L] at hl; omega)]
theorem Opt6Back : tenancylaw15_Opt6Back.Pure := by
  intro x o hx ho
  have hX : ∀ y ∈ x.f4, okX y := fun y hy => okX_wf (hx.2.2.2.2.1.2 y hy)
  have hi := wf_u32 hx.2.1
  have h1 := wf_u32 hx.2.2.1
  have h2 := wf_u32 hx.2.2.2.1
  have hj := back_j0 o.f0 o.f1 (by have := ho.2; omega) 1000 (by decide)
  refine ⟨1000, ?_⟩
  unfold tenancylaw15_Opt6Back.f
  rw [awake _ (by decide), Option.bind_some, if_pos rfl, put_f _ _ _ _ _ _ hX hi h1 h2, Option.bind_some]
  cases hs : sndS x.f0 x.f2 x.f3 x.f4 x.f5 with
  | true =>
    obtain ⟨s1, s2, s3, s4⟩ := sndS_in hs
    obtain ⟨o1, o2, o3⟩ := iaZ_ok x.f0 x.f4 x.f5 s3
    have hem := emL_len (iaZ x.f0 x.f4 x.f5)
    have hhd := hdP_len x.f0 x.f1 x.f2 x.f3
    have hsz : (B (hdP x.f0 x.f1 x.f2 x.f3 ++ emL (iaZ x.f0 x.f4 x.f5))).size ≤ 4611686018427387904 := by
      rw [size_B, List.length_append, hhd]
      split <;> omega
    rw [if_pos rfl]
    dsimp only
    rw [if_pos rfl, get_f _ _ hsz, L_B, gI_put _ _ _ _ _ _ hs hX hi h1 h2, Option.bind_some, if_pos rfl, ias_true _ _ _ _ _ _ (by omega) _ (by omega), Option.bind_some, if_pos rfl]
    exact hj
  | false =>
    rw [if_neg (show ¬ (false = true) by decide)]
    dsimp only
    rw [if_neg (by decide), if_pos rfl, sound_f _ _ _ _ _ _ hX, hs, Option.bind_some, if_neg (by decide), if_neg (by rw [toList_L]; decide)]
    exact hj
end Go.Proofs.Ytngojiikkokajaa.Pure
