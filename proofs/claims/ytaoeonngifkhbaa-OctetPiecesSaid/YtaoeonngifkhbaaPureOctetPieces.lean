/- The plain statement of OctetPieces: pieces are the whole, padding is 0: no condition. -/
import Derived.Test.YtaoeonngifkhbaaX2
import Derived.Test.YtaoeonngifkhbaaXOct
set_option linter.unusedVariables false
set_option linter.unusedSimpArgs false
namespace Go.Proofs.Ytaoeonngifkhbaa.Pure
open Go.RowKit Go.Proofs.YtaoeonngifkhbaaW.PrintWords Go.Proofs.YtaoeonngifkhbaaW.PrintLast Go.Proofs.YtaoeonngifkhbaaW.PrintMore Go.Proofs.Ytaoeonngifkhbaa.X Go.Proofs.Ytaoeonngifkhbaa.Oct

theorem awake_true3 {k : Nat} (hk : 12 ≤ k) : tenancylaw04_awake.f k = some true :=
  at_rounds tenancylaw04_awake.mono hk (by decide +kernel)
theorem tmod_u64 (x y : Int) (hy : 0 < y) : wrap64 (Int.tmod (IntKind.u64.wrap x) y) = wrap64 ((x % 18446744073709551616) % y) := by
  rw [u64_wrap, Int.tmod_eq_emod_of_nonneg (Int.emod_nonneg _ (by omega))]
theorem zeros_loop (s p : ByteArray) (m : Nat) (hp : L p = L s ++ List.replicate (m - (L s).length) 0) (hm : (L s).length ≤ m) (hm2 : m ≤ 4611686018427387904) (d : Nat) :
    ∀ (k i : Nat), m - i = d → (L s).length ≤ i → i ≤ m → d < k → tenancylaw04_OctetPieces.l0 k s (m : Int) p (i : Int) = (octet_Pad.f s (wrap64 ((s.size : Int) - 1))).bind fun b => some (!b.2) := by
  have hpl : (L p).length = m := by rw [hp, List.length_append, List.length_replicate]; omega
  have hps : (p.size : Int) = m := by rw [size_L, hpl]
  induction d with
  | zero =>
    intro k i hd h1 h2 hk
    obtain ⟨k, rfl⟩ : ∃ q, k = q + 1 := ⟨k - 1, by omega⟩
    rw [tenancylaw04_OctetPieces.l0, if_neg (by omega)]
  | succ d ih =>
    intro k i hd h1 h2 hk
    obtain ⟨k, rfl⟩ : ∃ q, k = q + 1 := ⟨k - 1, by omega⟩
    have hb : bt p (i : Int) = 0 := by
      rw [bt_L p i (by omega)]
      have : (L p)[i]'(by omega) = 0 := by
        have h3 : (L p)[i]? = some 0 := by
          rw [hp, List.getElem?_append_right h1, List.getElem?_replicate, if_pos (by omega)]
        rw [List.getElem?_eq_getElem (by omega)] at h3
        exact Option.some.inj h3
      rw [this]; rfl
    rw [tenancylaw04_OctetPieces.l0, if_pos (by omega), if_pos (by omega), if_pos (by omega), if_pos hb, w64 (by omega)]
    exact ih k (i + 1) (by omega) (by omega) (by omega) (by omega)
theorem OctetPieces : tenancylaw04_OctetPieces.Pure := by
  intro s at_ n hs ha hn
  have hsz : ((L s).length : Int) = s.size := by rw [size_L]
  refine ⟨70000, ?_⟩
  unfold tenancylaw04_OctetPieces.f
  rw [awake_true3 (by omega)]
  simp only [Option.bind_some, if_true]
  by_cases hbig : (s.size : Int) > 65536
  · rw [tenancylaw04_OctetPieces.j0, if_pos (by simpa using hbig), awake_true3 (by omega)]
    rfl
  have e1 : IntKind.u64.wrap (wrap64 ((s.size : Int) + 1)) = (s.size : Int) + 1 := by
    rw [w64 (by omega), u64_wrap, Int.emod_eq_of_lt (by omega) (by omega)]
  obtain ⟨j, hj⟩ : ∃ j : Nat, (at_ % 18446744073709551616) % ((s.size : Int) + 1) = (j : Int) := ⟨((at_ % 18446744073709551616) % ((s.size : Int) + 1)).toNat, by
    have := Int.emod_nonneg (at_ % 18446744073709551616) (show ((s.size : Int) + 1) ≠ 0 by omega)
    omega⟩
  have hjl : (j : Int) < (s.size : Int) + 1 := by rw [← hj]; exact Int.emod_lt_of_pos _ (by omega)
  have e2 : wrap64 (Int.tmod (IntKind.u64.wrap at_) (IntKind.u64.wrap (wrap64 ((s.size : Int) + 1)))) = (j : Int) := by
    rw [e1, tmod_u64 _ _ (by omega), hj, w64 (by omega)]
  have e3 : wrap64 ((s.size : Int) - (j : Int)) = (s.size : Int) - j := w64 (by omega)
  have e4 : wrap64 ((s.size : Int) - (j : Int) + 1) = (s.size : Int) - j + 1 := w64 (by omega)
  obtain ⟨q, hq⟩ : ∃ q : Nat, (n % 18446744073709551616) % 100 = (q : Int) := ⟨((n % 18446744073709551616) % 100).toNat, by omega⟩
  have hql : q < 100 := by omega
  have e5 : wrap64 ((s.size : Int) + wrap64 (Int.tmod (IntKind.u64.wrap n) 100)) = ((s.size + q : Nat) : Int) := by
    rw [tmod_u64 _ _ (by omega), hq, w64 (n := (q : Int)) (by omega), w64 (by omega)]
    omega
  have c1 : cutB (L s) 0 (j : Int) = true := by simp only [cutB, decide_eq_true_eq]; omega
  have c2 : cutB (L s) (j : Int) ((s.size : Int) - j) = true := by simp only [cutB, decide_eq_true_eq]; omega
  have c3 : cutB (L s) (j : Int) ((s.size : Int) - j + 1) = false := by simp only [cutB, decide_eq_false_iff_not]; omega
  rw [tenancylaw04_OctetPieces.j0, if_neg (by simpa using hbig), e2, e3, e4, e1, if_neg (by omega), cut s 0 j (by omega) (by omega) (by omega), cut s j _ (by omega) (by omega) (by omega), cut s j _ (by omega) (by omega) (by omega), c1, c2, c3]
  simp only [Option.bind_some, if_true, Bool.false_eq_true, if_false]
  have hcat : B (cutL (L s) 0 j) ++ B (cutL (L s) j ((s.size : Int) - j)) = s := by
    apply ext_L
    unfold cutL
    rw [L_append, L_B, L_B, c1, c2, if_pos rfl, if_pos rfl]
    simp only [Int.toNat_natCast, Int.toNat_zero, List.drop_zero]
    rw [List.take_of_length_le (l := (L s).drop j) (by rw [List.length_drop]; omega), List.take_append_drop]
  rw [if_pos (by rw [size_B, size_B, cutL_length, cutL_length, c1, c2, if_pos rfl, if_pos rfl]; omega), hcat]
  simp only [bne_self_eq_false]
  have hp1 : padOk (L s) ((s.size + q : Nat) : Int) = true := by simp only [padOk, decide_eq_true_eq]; omega
  have hpL : L (B (padL (L s) ((s.size + q : Nat) : Int))) = L s ++ List.replicate (s.size + q - (L s).length) 0 := by
    unfold padL
    rw [L_B, hp1, if_pos rfl, Int.toNat_natCast]
  have hpz : ((B (padL (L s) ((s.size + q : Nat) : Int))).size : Int) = ((s.size + q : Nat) : Int) := by
    rw [size_L, hpL, List.length_append, List.length_replicate]; omega
  have hpt : ((B (padL (L s) ((s.size + q : Nat) : Int))).extract 0 ((s.size : Int)).toNat).toList = s.toList := by
    rw [toList_L, toList_L, L_extract, hpL, List.drop_zero, Nat.sub_zero, Int.toNat_natCast, size_L, List.take_append_of_le_length (Nat.le_refl _), List.take_length]
  rw [tenancylaw04_OctetPieces.j1, if_neg (by decide), e5, pad s _ (by omega) (by omega) (by omega), hp1]
  simp only [Option.bind_some, if_true]
  rw [if_pos hpz, if_pos (by omega), if_pos (by rw [hpz]; omega), hpt]
  simp only [bne_self_eq_false]
  rw [tenancylaw04_OctetPieces.j2, if_neg (by decide)]
  have hL := size_L s
  rw [zeros_loop s (B (padL (L s) ((s.size + q : Nat) : Int))) (s.size + q) hpL (by omega) (by omega) q _ s.size (by omega) (by omega) (by omega) (by omega), w64 (by omega), pad s _ (by omega) (by omega) (by omega)]
  have hp2 : padOk (L s) ((s.size : Int) - 1) = false := by simp only [padOk, decide_eq_false_iff_not]; omega
  rw [hp2]
  rfl
end Go.Proofs.Ytaoeonngifkhbaa.Pure
