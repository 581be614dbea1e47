/- Opt6: what the statements compare with, and what the document fixes by number: plain lemmas; no condition. -/
import Derived.Test.YtngojiikkokajaaG0
import Derived.Test.YtngojiikkokajaaG1
import Derived.Test.YtngojiikkokajaaG2
import Derived.Test.YtngojiikkokajaaG3
import Derived.Test.YtngojiikkokajaaG4
import Derived.Test.YtngojiikkokajaaG5
import Derived.Laws.BitsAllLaws
import Derived.Lib.Strings
import Derived.Test.YtngojiikkokajaaXO2
set_option linter.unusedVariables false
set_option linter.unusedSimpArgs false
namespace Go.Proofs.Ytngojiikkokajaa.O6
open Go Go.RowKit Go.Proofs.YtngojiikkokajaaW.PrintWords Go.Proofs.YtngojiikkokajaaW.PrintLast Go.Proofs.YtngojiikkokajaaW.PrintMore Go.Proofs.Ytngojiikkokajaa.X Go.Proofs.Ytngojiikkokajaa.Oct Go.Proofs.Ytngojiikkokajaa.Adr Go.Proofs.Ytngojiikkokajaa.Pre
theorem same_true (xs : List S40) (hz : xs.length ≤ 9000000000000) (k : Nat) (hk : xs.length < k) : tenancylaw15_same.f k xs xs = some true := by
  have go : ∀ (d k i : Nat), xs.length - i = d → i ≤ xs.length → d < k → tenancylaw15_same.l0 k xs xs (i : Int) = some true := by
    intro d
    induction d with
    | zero =>
      intro k i hd hi hk
      obtain ⟨k, rfl⟩ : ∃ m, k = m + 1 := ⟨k - 1, by omega⟩
      rw [tenancylaw15_same.l0, if_neg (by omega)]
    | succ d ih =>
      intro k i hd hi hk
      obtain ⟨k, rfl⟩ : ∃ m, k = m + 1 := ⟨k - 1, by omega⟩
      rw [tenancylaw15_same.l0, if_pos (by omega), if_pos (by omega), if_pos (by omega), if_neg (by simp), w64 (by omega)]
      exact ih k (i + 1) (by omega) (by omega) (by omega)
  unfold tenancylaw15_same.f
  rw [if_pos rfl]
  exact go xs.length k 0 rfl (by omega) (by omega)
theorem ias_true (a b c d : Int) (xs : List S76) (e : Int) (hz : xs.length ≤ 9000000000000) (k : Nat) (hk : xs.length + 2 < k) : tenancylaw15_ias.f k a b c d xs e a b c d xs e = some true := by
  have go : ∀ (d' k i : Nat), xs.length - i = d' → i ≤ xs.length → d' < k → tenancylaw15_ias.l0 k (i : Int) a b c d xs e a b c d xs e = some true := by
    intro d'
    induction d' with
    | zero =>
      intro k i hd hi hk
      obtain ⟨k, rfl⟩ : ∃ m, k = m + 1 := ⟨k - 1, by omega⟩
      rw [tenancylaw15_ias.l0, if_neg (by omega)]
    | succ d' ih =>
      intro k i hd hi hk
      obtain ⟨k, rfl⟩ : ∃ m, k = m + 1 := ⟨k - 1, by omega⟩
      rw [tenancylaw15_ias.l0, if_pos (by omega), if_pos (by omega), if_pos (by omega), if_neg (by simp), w64 (by omega)]
      exact ih k (i + 1) (by omega) (by omega) (by omega)
  obtain ⟨k, rfl⟩ : ∃ m, k = m + 1 := ⟨k - 1, by omega⟩
  unfold tenancylaw15_ias.f
  rw [if_pos rfl, if_pos rfl, if_pos rfl, if_pos rfl, if_pos rfl, tenancylaw15_ias.j0, if_neg (by simp)]
  exact go xs.length k 0 rfl (by omega) (by omega)
theorem stZ_ok (c : Int) : emOk (stZ c) = true := by
  have := stD_len c
  unfold stZ
  split
  · rfl
  · unfold emOk
    rw [List.all_cons, List.all_nil, Bool.and_true]
    exact decide_eq_true (by rw [L_B]; omega)
theorem awake (k : Nat) (hk : 400 ≤ k) : tenancylaw15_awake.f k = some true := by
  have ho : opts [0, 8, 0, 2, 0, 0] = ([⟨8, B [0, 0]⟩], 0) := opts_emit [⟨8, B [0, 0]⟩] (by decide) (fun x hx => by obtain rfl := List.mem_singleton.1 hx; exact ⟨by decide, by decide⟩) (by simp)
  have hp : opt6_Parse.f k (⟨#[0, 8, 0, 2, 0, 0]⟩ : ByteArray) = some ([⟨8, B [0, 0]⟩], 0) := by rw [parse_eq _ (by decide) k (by omega)]; exact congrArg some ho
  have hw : opt6_PutIA.f 2 1 0 0 ([] : List S76) 2 = some (3, B [0, 0, 0, 1, 0, 0, 0, 0, 0, 0, 0, 0, 0, 13, 0, 2, 0, 2], 0) := by
    rw [put_f 2 1 0 0 [] 2 (fun x hx => by cases hx) ⟨by decide, by decide⟩ ⟨by decide, by decide⟩ ⟨by decide, by decide⟩, if_pos (by decide)]
    rfl
  have ho2 : opts [0, 13, 0, 2, 0, 2] = (stZ 2, 0) := opts_emit (stZ 2) (stZ_ok 2) (fun x hx => by
    obtain rfl := List.mem_singleton.1 (show x ∈ [(⟨13, B (stD 2)⟩ : S40)] from hx)
    exact ⟨by decide, by decide⟩) (by decide)
  have hg : opt6_GetIA.f 3 (B [0, 0, 0, 1, 0, 0, 0, 0, 0, 0, 0, 0, 0, 13, 0, 2, 0, 2]) = some (2, 1, 0, 0, [], 2, 0) := by
    rw [get_f _ _ (by decide)]
    refine congrArg some ?_
    unfold gI
    rw [if_pos rfl]
    unfold gB
    rw [L_B, if_pos (by decide), show List.drop 12 [(0 : UInt8), 0, 0, 1, 0, 0, 0, 0, 0, 0, 0, 0, 0, 13, 0, 2, 0, 2] = [0, 13, 0, 2, 0, 2] from rfl, ho2, if_pos rfl]
    rfl
  have he : opt6_Emit.f [(⟨8, B [0, 0]⟩ : S40)] = some (B [0, 8, 0, 2, 0, 0], 0) := emit_one 8 (by decide) (B [0, 0]) (by decide)
  have hs : opt6_GetStatus.f k (⟨#[0, 5, 120]⟩ : ByteArray) = some (5, true) := by
    rw [getStatus_eq _ (by decide) k (by omega)]
    rfl
  have hq : opt6_PutStatus.f k 5 = some (B [0, 5]) := by rw [putStatus_eq 5 k (by omega)]; rfl
  unfold tenancylaw15_awake.f
  rw [hp, Option.bind_some, hw, Option.bind_some]
  dsimp only
  rw [hg, Option.bind_some, he, Option.bind_some, hs, Option.bind_some, if_pos rfl]
  dsimp only
  rw [show ([(⟨8, (⟨#[0, 0]⟩ : ByteArray)⟩ : S40)] : List S40) = [⟨8, B [0, 0]⟩] from rfl, same_true _ (by simp) k (by simp; omega), Option.bind_some, if_pos rfl, if_pos rfl, if_pos (by rw [toList_L]; rfl), if_pos rfl, ias_true _ _ _ _ _ _ (by simp) k (by simp; omega), Option.bind_some, if_pos rfl, if_pos rfl, if_pos (by rw [toList_L]; rfl), if_pos rfl, if_pos rfl, hq, Option.bind_some, toList_L]
  rfl
end Go.Proofs.Ytngojiikkokajaa.O6
