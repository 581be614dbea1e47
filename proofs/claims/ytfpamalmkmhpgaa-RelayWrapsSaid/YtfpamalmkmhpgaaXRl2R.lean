/- The reference's side of the plain lemmas: no condition. -/
import Derived.Test.YtfpamalmkmhpgaaG0
import Derived.Test.YtfpamalmkmhpgaaG1
import Derived.Test.YtfpamalmkmhpgaaG2
import Derived.Test.YtfpamalmkmhpgaaG3
import Derived.Test.YtfpamalmkmhpgaaG6
import Derived.Test.YtfpamalmkmhpgaaG7
import Derived.Laws.BitsAllLaws
import Derived.Lib.Strings
import Derived.Test.YtfpamalmkmhpgaaXRl2
import Derived.Test.YtfpamalmkmhpgaaXOctRefP
set_option linter.unusedVariables false
set_option linter.unusedSimpArgs false
namespace Go.Proofs.Ytfpamalmkmhpgaa.Rl
open Go Go.RowKit Go.Proofs.YtfpamalmkmhpgaaW.PrintWords Go.Proofs.YtfpamalmkmhpgaaW.PrintLast Go.Proofs.YtfpamalmkmhpgaaW.PrintMore Go.Proofs.Ytfpamalmkmhpgaa.X Go.Proofs.Ytfpamalmkmhpgaa.Oct

theorem remit_go (zs : List S42) (hz : ∀ x ∈ zs, okF x) (hl : zs.length ≤ 128) (d : Nat) : ∀ (k i : Nat) (xs : List UInt8), zs.length - i = d → i ≤ zs.length → d + 20 ≤ k → xs.length + 65539 * d ≤ 100000000 →
    tenancyref15_Emit.l0 k zs (ints xs) (i : Int) = some (if emOk (zs.drop i) = true then (B (xs ++ emL (zs.drop i)), 0) else (NIL, 130)) := by
  induction d with
  | zero =>
    intro k i xs hd hi hk hx
    obtain ⟨k, rfl⟩ : ∃ m, k = m + 1 := ⟨k - 1, by omega⟩
    rw [tenancyref15_Emit.l0, if_neg (by omega), List.drop_of_length_le (by omega), ints_str]
    show _ = some (B (xs ++ []), 0)
    rw [List.append_nil]
  | succ d ih =>
    intro k i xs hd hi hk hx
    obtain ⟨k, rfl⟩ : ∃ m, k = m + 1 := ⟨k - 1, by omega⟩
    have hlt : i < zs.length := by omega
    have hdr := drop_at zs i hlt
    have hm : rd_T42 zs (i : Int) ∈ zs := List.mem_of_mem_drop (hdr ▸ List.mem_cons_self : rd_T42 zs (i : Int) ∈ zs.drop i)
    have hF := hz _ hm
    rw [tenancyref15_Emit.l0, if_pos (by omega), if_pos (by omega), hdr]
    generalize rd_T42 zs (i : Int) = x at hF ⊢
    rw [rrun (by omega) x.f1, Option.bind_some]
    dsimp only
    cases hr : runOk (L x.f1) with
    | false =>
      have he : emOk (x :: zs.drop (i + 1)) = false := by unfold emOk; rw [List.all_cons, hr]; rfl
      rw [if_neg (by decide), he]
      rfl
    | true =>
      have he : emOk (x :: zs.drop (i + 1)) = emOk (zs.drop (i + 1)) := by unfold emOk; rw [List.all_cons, hr, Bool.true_and]
      have hb := runL_len (L x.f1)
      rw [if_pos rfl, rPut16 (by omega) x.f0 hF.1 hF.2, Option.bind_some, if_pos (by rw [ints_len, size_B, be2_length]; omega), Option.bind_some, bytesOf_L, bytesOf_L, L_B, L_B]
      change (if (ints xs ++ ints (be2 x.f0)).length + (B (runL (L x.f1))).size < 140737488355328 then tenancyref15_Emit.l0 k zs ((ints xs ++ ints (be2 x.f0)) ++ ints (runL (L x.f1))) (wrap64 ((i : Int) + 1)) else none) = _
      rw [if_pos (by rw [List.length_append, ints_len, ints_len, size_B, be2_length]; omega), ← ints_append, ← ints_append, w64 (by omega)]
      have := ih k (i + 1) (xs ++ be2 x.f0 ++ runL (L x.f1)) (by omega) (by omega) (by omega) (by rw [List.length_append, List.length_append, be2_length]; omega)
      rw [show ((i : Int) + 1) = ((i + 1 : Nat) : Int) from rfl, this, he, emL]
      simp only [List.append_assoc]
theorem remit_eq (zs : List S42) (hz : ∀ x ∈ zs, okF x) (hl : zs.length ≤ 128) (k : Nat) (hk : 200 ≤ k) : tenancyref15_Emit.f k zs = some (if emOk zs = true then (B (emL zs), 0) else (NIL, 130)) := by
  unfold tenancyref15_Emit.f
  rw [if_neg (by omega)]
  have := remit_go zs hz hl zs.length k 0 [] (by omega) (by omega) (by omega) (by simp; omega)
  rw [List.drop_zero] at this
  exact this
theorem rl1_go (kind : Int) (xs : List S39) (hU : ∀ r ∈ xs, okU r) (hL : xs.length ≤ 32) (n : Nat) : ∀ (k : Nat) (s : ByteArray), n ≤ xs.length → 300 + 2 * n ≤ k →
    tenancyref17_Wrap.l1 k kind xs s ((n : Int) - 1) = some (fw (relay_Wrap.l kind (xs.take n).reverse s)) := by
  induction n with
  | zero =>
    intro k s hn hk
    obtain ⟨k, rfl⟩ : ∃ m, k = m + 1 := ⟨k - 1, by omega⟩
    rw [tenancyref17_Wrap.l1, if_neg (by decide)]
    show _ = some (fw (s, 0))
    unfold fw
    rw [if_pos rfl]
    by_cases h : 65507 < s.size
    · rw [if_pos (by omega), if_pos h]
    · rw [if_neg (by omega), if_neg h]
  | succ n ih =>
    intro k s hn hk
    obtain ⟨k, rfl⟩ : ∃ m, k = m + 2 := ⟨k - 2, by omega⟩
    have hlt : n < xs.length := by omega
    have e : ((n + 1 : Nat) : Int) - 1 = (n : Int) := by omega
    have ht : (xs.take (n + 1)).reverse = xs[n] :: (xs.take n).reverse := by
      rw [List.take_succ_eq_append_getElem hlt, List.reverse_append]; rfl
    have hu := hU _ (List.getElem_mem hlt)
    have hO : ∀ zs : List S42, zs = relay_Wrap.o xs[n] s → ∀ b, tenancyref17_Wrap.j3 (k + 1) kind xs s (n : Int) b xs[n].f0 xs[n].f1.f0 xs[n].f1.f1 xs[n].f2.f0 xs[n].f2.f1 xs[n].f3 xs[n].f4 = tenancyref17_Wrap.j3 (k + 1) kind xs s (n : Int) b xs[n].f0 xs[n].f1.f0 xs[n].f1.f1 xs[n].f2.f0 xs[n].f2.f1 xs[n].f3 xs[n].f4 := fun _ _ _ => rfl
    have hj : ∀ b : List S42, b ++ [⟨9, s⟩] = relay_Wrap.o xs[n] s → b.length < 10 → tenancyref17_Wrap.j3 (k + 1) kind xs s (n : Int) b xs[n].f0 xs[n].f1.f0 xs[n].f1.f1 xs[n].f2.f0 xs[n].f2.f1 xs[n].f3 xs[n].f4 = some (fw (relay_Wrap.l kind (xs[n] :: (xs.take n).reverse) s)) := by
      intro b hb hbl
      have hok := o_ok xs[n] s
      have hz := emL_bound xs[n] s
      rw [tenancyref17_Wrap.j3, if_pos (by omega), hb, remit_eq _ hok.1 (by omega) k (by omega), Option.bind_some, l_cons kind xs[n] _ s hu]
      by_cases h : emOk (relay_Wrap.o xs[n] s) = true
      · rw [if_pos h, if_pos h, if_pos rfl, Option.bind_some, rputAddr (by omega) _ _ hu.1.1 hu.1.2, Option.bind_some, nums2, if_pos (by rw [size_B, size_B]; simp [be8_length]), rputAddr (by omega) _ _ hu.2.1 hu.2.2, Option.bind_some, B_append, if_pos (by rw [size_B, size_B]; simp [be8_length]), B_append, if_pos (by rw [size_B, size_B]; simp only [List.length_append, be8_length, List.length_cons, List.length_nil]; omega), B_append, w64 (by omega)]
        exact ih k _ (by omega) (by omega)
      · rw [if_neg h, if_neg h, if_neg (by decide)]
        rfl
    rw [tenancyref17_Wrap.l1, e, if_pos (by omega), if_pos (by omega), if_pos (by omega), Option.bind_some, rd39 xs n hlt, ht]
    by_cases h4 : xs[n].f4 = true
    · rw [if_pos h4, if_pos (by decide)]
      exact hj _ (by unfold relay_Wrap.o; rw [if_pos h4]; rfl) (by simp)
    · rw [if_neg h4]
      exact hj _ (by unfold relay_Wrap.o; rw [if_neg h4]; rfl) (by simp)
theorem rl0_go (kind : Int) (xs : List S39) (s : ByteArray) (hL : xs.length ≤ 32) (X : Option (ByteArray × Int)) (hX : ∀ k, 500 ≤ k → tenancyref17_Wrap.l1 k kind xs s (wrap64 ((xs.length : Int) - 1)) = X) (d : Nat) : ∀ (k i : Nat), xs.length - i = d → i ≤ xs.length → 501 + d ≤ k →
    tenancyref17_Wrap.l0 k kind xs s (i : Int) = if (xs.drop i).any wbad = true then some (NIL, 171) else X := by
  induction d with
  | zero =>
    intro k i hd hi hk
    obtain ⟨k, rfl⟩ : ∃ m, k = m + 1 := ⟨k - 1, by omega⟩
    rw [tenancyref17_Wrap.l0, if_neg (by omega), List.drop_of_length_le (by omega), hX k (by omega)]
    rfl
  | succ d ih =>
    intro k i hd hi hk
    obtain ⟨k, rfl⟩ : ∃ m, k = m + 1 := ⟨k - 1, by omega⟩
    have hlt : i < xs.length := by omega
    have hn := ih k (i + 1) (by omega) (by omega) (by omega)
    rw [tenancyref17_Wrap.l0, if_pos (by omega), if_pos (by omega), rd39 xs i hlt, List.drop_eq_getElem_cons hlt, List.any_cons, w64 (by omega)]
    rw [show ((i + 1 : Nat) : Int) = (i : Int) + 1 from rfl] at hn
    have hw := wbad_iff xs[i]
    by_cases h1 : xs[i].f0 < 0
    · rw [if_pos h1, hw.2 (.inl h1)]; rfl
    · by_cases h2 : xs[i].f0 > 255
      · rw [if_neg h1, if_pos h2, hw.2 (.inr (.inl h2))]; rfl
      · rw [if_neg h1, if_neg h2]
        by_cases h3 : xs[i].f3.toList = []
        · have hf : wbad xs[i] = false := Bool.eq_false_iff.2 fun h => by
            rcases hw.1 h with h | h | h
            · exact h1 h
            · exact h2 h
            · exact h.1 h3
          rw [if_pos h3, hn, hf, Bool.false_or]
        · rw [if_neg h3]
          by_cases h4 : xs[i].f4 = true
          · have hf : wbad xs[i] = false := Bool.eq_false_iff.2 fun h => by
              rcases hw.1 h with h | h | h
              · exact h1 h
              · exact h2 h
              · exact h.2 h4
            rw [if_pos h4, hn, hf, Bool.false_or]
          · rw [if_neg h4, hw.2 (.inr (.inr ⟨h3, h4⟩))]; rfl
theorem rwrap_eq (kind : Int) (xs : List S39) (s : ByteArray) (hU : ∀ r ∈ xs, okU r) (k : Nat) (hk : 1000 ≤ k) : tenancyref17_Wrap.f k kind xs s = some (relay_Wrap.g kind xs s) := by
  have hj : ∀ b, tenancyref17_Wrap.j0 k kind xs s b = some (if b = true then (NIL, 1) else if 32 < xs.length then (NIL, 170) else if xs.any wbad = true then (NIL, 171) else fw (relay_Wrap.l kind xs.reverse s)) := by
    intro b
    obtain ⟨k, rfl⟩ : ∃ m, k = m + 1 := ⟨k - 1, by omega⟩
    rw [tenancyref17_Wrap.j0]
    by_cases hb : b = true
    · rw [if_pos hb, if_pos hb]
    · rw [if_neg hb, if_neg hb]
      by_cases hl : 32 < xs.length
      · rw [if_pos (by omega), if_pos hl]
      · rw [if_neg (by omega), if_neg hl]
        have h := rl0_go kind xs s (by omega) _ (fun k hk => by
          rw [w64 (by omega)]
          have := rl1_go kind xs hU (by omega) xs.length k s (Nat.le_refl _) (by omega)
          rw [List.take_of_length_le (Nat.le_refl _)] at this
          exact this) xs.length k 0 rfl (by omega) (by omega)
        rw [List.drop_zero] at h
        rw [show (0 : Int) = ((0 : Nat) : Int) from rfl, h]
        by_cases ha : xs.any wbad = true
        · rw [if_pos ha, if_pos ha]
        · rw [if_neg ha, if_neg ha]
  unfold tenancyref17_Wrap.f relay_Wrap.g
  by_cases h12 : kind = 12
  · rw [if_pos h12, hj, if_neg (by decide), if_pos (show kind = 12 ∨ kind = 13 from .inl h12)]; rfl
  · rw [if_neg h12, hj]
    by_cases h13 : kind = 13
    · rw [if_neg (by simp [h13]), if_pos (show kind = 12 ∨ kind = 13 from .inr h13)]; rfl
    · rw [if_pos (by simp [h13]), if_neg (show ¬ (kind = 12 ∨ kind = 13) by omega)]
theorem rlink_go (xs : List S39) (n : Nat) : ∀ (k : Nat), n ≤ xs.length → n < k → xs.length ≤ 9000000000000 → tenancyref17_Link.l0 k xs ((n : Int) - 1) = some (relay_Link.l (xs.take n).reverse) := by
  induction n with
  | zero =>
    intro k hn hk hz
    obtain ⟨k, rfl⟩ : ∃ m, k = m + 1 := ⟨k - 1, by omega⟩
    rw [tenancyref17_Link.l0, if_neg (by decide)]
    rfl
  | succ n ih =>
    intro k hn hk hz
    obtain ⟨k, rfl⟩ : ∃ m, k = m + 1 := ⟨k - 1, by omega⟩
    have hlt : n < xs.length := by omega
    have e : ((n + 1 : Nat) : Int) - 1 = (n : Int) := by omega
    have ht : (xs.take (n + 1)).reverse = xs[n] :: (xs.take n).reverse := by
      rw [List.take_succ_eq_append_getElem hlt, List.reverse_append]; rfl
    rw [tenancyref17_Link.l0, e, if_pos (by omega), if_pos (by omega), if_pos (by omega), rd39 xs n hlt, ht, relay_Link.l, w64 (by omega)]
    by_cases h : xs[n].f1.f0 = 0 ∧ xs[n].f1.f1 = 0
    · rw [if_neg (by simp [h.1, h.2]), if_pos h]
      exact ih k (by omega) (by omega) hz
    · rw [if_pos (by
        simp only [Bool.or_eq_true, Bool.not_eq_true', beq_eq_false_iff_ne, ne_eq]
        by_cases h1 : xs[n].f1.f0 = 0
        · exact .inr fun h2 => h ⟨h1, h2⟩
        · exact .inl h1), if_neg h]
theorem rlink_eq (xs : List S39) (k : Nat) (hk : xs.length < k) (hz : xs.length ≤ 9000000000000) : tenancyref17_Link.f k xs = some (relay_Link.l xs.reverse) := by
  unfold tenancyref17_Link.f
  have := rlink_go xs xs.length k (Nat.le_refl _) hk hz
  rw [List.take_of_length_le (Nat.le_refl _)] at this
  rw [w64 (by omega)]
  exact this
end Go.Proofs.Ytfpamalmkmhpgaa.Rl
