/- Opt6: rows of options, read and written by the reference: plain lemmas; conditions: strings are within 2^62. -/
import Derived.Test.YtngojiikkokajaaG0
import Derived.Test.YtngojiikkokajaaG1
import Derived.Test.YtngojiikkokajaaG2
import Derived.Test.YtngojiikkokajaaG3
import Derived.Test.YtngojiikkokajaaG4
import Derived.Test.YtngojiikkokajaaG5
import Derived.Test.YtngojiikkokajaaG6
import Derived.Test.YtngojiikkokajaaG7
import Derived.Test.YtngojiikkokajaaG9
import Derived.Laws.BitsAllLaws
import Derived.Lib.Strings
import Derived.Test.YtngojiikkokajaaXO1P
set_option linter.unusedVariables false
set_option linter.unusedSimpArgs false
namespace Go.Proofs.Ytngojiikkokajaa.O6
open Go Go.RowKit Go.Proofs.YtngojiikkokajaaW.PrintWords Go.Proofs.YtngojiikkokajaaW.PrintLast Go.Proofs.YtngojiikkokajaaW.PrintMore Go.Proofs.Ytngojiikkokajaa.X Go.Proofs.Ytngojiikkokajaa.Oct
def ints (l : List UInt8) : List Int := l.map fun c => (c.toNat : Int)
theorem ints_append (a b : List UInt8) : ints (a ++ b) = ints a ++ ints b := by simp [ints]
theorem ints_len (a : List UInt8) : (ints a).length = a.length := by simp [ints]
theorem ints_str (a : List UInt8) : strOfNums (ints a) = B a := by
  rw [strOfNums_B _ (by
    intro x hx
    obtain ⟨c, _, rfl⟩ := List.mem_map.1 hx
    have := c.toNat_lt
    omega)]
  congr 1
  unfold ints
  rw [List.map_map]
  conv => rhs; rw [← List.map_id a]
  apply List.map_congr_left
  intro c _
  exact b8_byte c
theorem remit_go (zs : List S40) (hz : ∀ x ∈ zs, okF x) (hl : zs.length ≤ 128) (d : Nat) : ∀ (k i : Nat) (xs : List UInt8), zs.length - i = d → i ≤ zs.length → d + 20 ≤ k → xs.length + 65539 * d ≤ 100000000 →
    tenancyref15_Emit.l0 k zs (ints xs) (i : Int) = some (if emOk (zs.drop i) = true then (B (xs ++ emL (zs.drop i)), 0) else (NIL, 130)) := by
  induction d with
  | zero =>
    intro k i xs hd hi hk hx
    obtain ⟨k, rfl⟩ : ∃ m, k = m + 1 := ⟨k - 1, by omega⟩
    rw [tenancyref15_Emit.l0, if_neg (by omega), List.drop_of_length_le (by omega), ints_str]
    show _ = some (B (xs ++ []), 0)
    rw [List.append_nil]
  | succ d ih =>
    intro k i xs hd hi hk hx
    obtain ⟨k, rfl⟩ : ∃ m, k = m + 1 := ⟨k - 1, by omega⟩
    have hlt : i < zs.length := by omega
    have hdr := drop_at zs i hlt
    have hm : rd_T40 zs (i : Int) ∈ zs := List.mem_of_mem_drop (hdr ▸ List.mem_cons_self : rd_T40 zs (i : Int) ∈ zs.drop i)
    have hF := hz _ hm
    rw [tenancyref15_Emit.l0, if_pos (by omega), if_pos (by omega), hdr]
    generalize rd_T40 zs (i : Int) = x at hF ⊢
    rw [rrun (by omega) x.f1, Option.bind_some]
    dsimp only
    cases hr : runOk (L x.f1) with
    | false =>
      have he : emOk (x :: zs.drop (i + 1)) = false := by unfold emOk; rw [List.all_cons, hr]; rfl
      rw [if_neg (by decide), he]
      rfl
    | true =>
      have he : emOk (x :: zs.drop (i + 1)) = emOk (zs.drop (i + 1)) := by unfold emOk; rw [List.all_cons, hr, Bool.true_and]
      have hb := runL_len (L x.f1)
      rw [if_pos rfl, rPut16 (by omega) x.f0 hF.1 hF.2, Option.bind_some, if_pos (by rw [ints_len, size_B, be2_length]; omega), Option.bind_some, bytesOf_L, bytesOf_L, L_B, L_B]
      change (if (ints xs ++ ints (be2 x.f0)).length + (B (runL (L x.f1))).size < 140737488355328 then tenancyref15_Emit.l0 k zs ((ints xs ++ ints (be2 x.f0)) ++ ints (runL (L x.f1))) (wrap64 ((i : Int) + 1)) else none) = _
      rw [if_pos (by rw [List.length_append, ints_len, ints_len, size_B, be2_length]; omega), ← ints_append, ← ints_append, w64 (by omega)]
      have := ih k (i + 1) (xs ++ be2 x.f0 ++ runL (L x.f1)) (by omega) (by omega) (by omega) (by rw [List.length_append, List.length_append, be2_length]; omega)
      rw [show ((i : Int) + 1) = ((i + 1 : Nat) : Int) from rfl, this, he, emL]
      simp only [List.append_assoc]
theorem remit_eq (zs : List S40) (hz : ∀ x ∈ zs, okF x) (hl : zs.length ≤ 128) (k : Nat) (hk : 200 ≤ k) : tenancyref15_Emit.f k zs = some (if emOk zs = true then (B (emL zs), 0) else (NIL, 130)) := by
  unfold tenancyref15_Emit.f
  rw [if_neg (by omega)]
  have := remit_go zs hz hl zs.length k 0 [] (by omega) (by omega) (by omega) (by simp; omega)
  rw [List.drop_zero] at this
  exact this
end Go.Proofs.Ytngojiikkokajaa.O6
