/- The reference's side of the plain lemmas: no condition. -/
import Derived.Test.YtdhmlenmnobmfaaG0
import Derived.Test.YtdhmlenmnobmfaaG1
import Derived.Test.YtdhmlenmnobmfaaG2
import Derived.Test.YtdhmlenmnobmfaaG3
import Derived.Test.YtdhmlenmnobmfaaG7
import Derived.Test.YtdhmlenmnobmfaaG8
import Derived.Laws.BitsAllLaws
import Derived.Lib.Strings
import Derived.Test.YtdhmlenmnobmfaaXOpt
set_option linter.unusedVariables false
set_option linter.unusedSimpArgs false
namespace Go.Proofs.Ytdhmlenmnobmfaa.Opt
open Go.RowKit Go.Proofs.YtdhmlenmnobmfaaW.PrintWords Go.Proofs.YtdhmlenmnobmfaaW.PrintLast Go.Proofs.YtdhmlenmnobmfaaW.PrintMore Go.Proofs.Ytdhmlenmnobmfaa.X Go.Proofs.Ytdhmlenmnobmfaa.Oct

theorem place_go : ∀ (n k : Nat) (l : List S47) (c : Int) (i : Nat), l.length ≤ 140737488351232 → l.length - i ≤ n → n + 1 ≤ k → tenancyref13_place.l0 k l c (i : Int) = some (idxOf c (l.drop i) i) := by
  intro n
  induction n using Nat.strongRecOn with
  | ind n ih =>
      intro k l c i hs hn hk
      obtain ⟨k, rfl⟩ : ∃ m, k = m + 1 := ⟨k - 1, by omega⟩
      rw [tenancyref13_place.l0]
      by_cases hlt : i < l.length
      · obtain ⟨m, rfl⟩ : ∃ m, n = m + 1 := ⟨n - 1, by omega⟩
        have hrd : rd_T47 l (i : Int) = l[i] := by
          show List.getD _ _ _ = _
          rw [List.getD_eq_getElem?_getD, Int.toNat_natCast, List.getElem?_eq_getElem hlt]; rfl
        rw [if_pos (by omega), if_pos (by omega), hrd, List.drop_eq_getElem_cons hlt, idxOf]
        by_cases h : l[i].f0 = c
        · rw [if_pos h, if_pos h]
        · rw [if_neg h, if_neg h, w64 (by omega), show ((i : Int) + 1) = ((i + 1 : Nat) : Int) by omega, ih m (by omega) k l c (i + 1) hs (by omega) (by omega)]
      · rw [if_neg (by omega), List.drop_eq_nil_of_le (by omega)]; rfl
theorem place_eq {k : Nat} (l : List S47) (c : Int) (hs : l.length ≤ 140737488351232) (hk : l.length + 1 ≤ k) : tenancyref13_place.f k l c = some (idxOf c l 0) := by
  have h := place_go l.length k l c 0 hs (by omega) hk
  rw [List.drop_zero] at h
  exact h
theorem rarea_end (k : Nat) (l : List S47) (s : ByteArray) (x : Int) : tenancyref13_area.j1 (k + 1) l s x false = some (l, 0) := by rw [tenancyref13_area.j1, if_neg (by decide)]
theorem rarea_eq : ∀ (n k : Nat) (l : List S47) (s : ByteArray) (i : Nat), s.size ≤ 140737500000000 → i ≤ s.size → s.size - i ≤ n → Fit l → 3 * n + 140 ≤ k → tenancyref13_area.l0 k l s (i : Int) = some (areaL n l ((L s).drop i)) := by
  intro n
  induction n using Nat.strongRecOn with
  | ind n ih =>
      intro k l s i hs hi hn hf hk
      obtain ⟨k, rfl⟩ : ∃ m, k = m + 3 := ⟨k - 3, by omega⟩
      rw [tenancyref13_area.l0]
      by_cases hlt : i < s.size
      · obtain ⟨m, rfl⟩ : ∃ m, n = m + 1 := ⟨n - 1, by omega⟩
        obtain ⟨c, r, hcr⟩ := drop_cons hlt
        obtain ⟨hb, _, hr, hsz⟩ := bt_c s i c r hcr
        rw [if_pos (by omega), if_pos (by omega), hcr, hb]
        by_cases h255 : c = 255
        · subst h255
          rw [show (((255 : UInt8).toNat : Int) != 255) = false by decide, rarea_end]; rfl
        have hc255 : ((c.toNat : Int) != 255) = true := by
          rw [bne_iff_ne]
          intro h
          exact h255 ((u8ne (m := 255) (by omega)).1 h)
        rw [hc255, tenancyref13_area.j1, if_pos rfl, if_pos (by omega), if_pos (by omega), hb]
        by_cases h0 : c = 0
        · subst h0
          rw [if_pos (by decide), w64 (by omega), show ((i : Int) + 1) = ((i + 1 : Nat) : Int) by omega, ih m (by omega) _ l s (i + 1) hs (by omega) (by omega) hf (by omega), hr]
          simp [areaL]
        have hc0 : ¬ (c.toNat : Int) = 0 := fun h => h0 ((u8ne (m := 0) (by omega)).1 h)
        rw [if_neg hc0, w64 (n := (i : Int) + 1) (by omega)]
        rcases r with _ | ⟨q, r⟩
        · rw [List.length_nil] at hsz
          rw [if_pos (by omega), tenancyref13_area.j2, if_pos rfl]
          simp [areaL, h255, h0]
        · obtain ⟨hb2, _, hr2, hsz2⟩ := bt_c s (i + 1) q r hr
          have hq := q.toNat_lt
          rw [if_neg (by omega), if_pos (by omega), if_pos (by omega), show ((i : Int) + 1) = ((i + 1 : Nat) : Int) by omega, hb2, w64 (n := (q.toNat : Int)) (by omega), w64 (n := (s.size : Int) - i) (by omega), w64 (n := (s.size : Int) - i - 2) (by omega), tenancyref13_area.j2]
          have W1 := Aside0.mk (show wrap64 ((i : Int) + 1) = ((i + 1 : Nat) : Int) from (w64 (n := (i : Int) + 1) (by omega)).trans (by omega))
          have W2 := Aside0.mk (show wrap64 ((i : Int) + 2) = (i : Int) + 2 from w64 (by omega))
          have W3 := Aside0.mk (show wrap64 ((q.toNat : Int)) = (q.toNat : Int) from w64 (by omega))
          have W4 := Aside0.mk (show wrap64 ((i : Int) + 2 + (q.toNat : Int)) = (i : Int) + 2 + (q.toNat : Int) from w64 (by omega))
          have ht1 : ((i : Int) + 2).toNat = i + 2 := by omega
          have ht2 : ((i : Int) + 2 + (q.toNat : Int)).toNat = i + 2 + q.toNat := by omega
          have p1 : (0 : Int) ≤ ((i + 1 : Nat) : Int) := by omega
          have p2 : ((i + 1 : Nat) : Int) < (s.size : Int) := by omega
          have p3 : (0 : Int) ≤ (i : Int) + 2 := by omega
          have p4 : (i : Int) + 2 ≤ (i : Int) + 2 + (q.toNat : Int) := by omega
          by_cases hsh : r.length < q.toNat
          · rw [if_pos (by simp only [decide_eq_true_eq]; omega)]
            simp [areaL, h255, h0, hsh]
          · have p5 : (i : Int) + 2 + (q.toNat : Int) ≤ (s.size : Int) := by omega
            have p6 : ¬ (decide ((q.toNat : Int) > (s.size : Int) - (i : Int) - 2) = true) := by simp only [decide_eq_true_eq]; omega
            have p7 : i + 2 + q.toNat ≤ s.size := by omega
            have p8 : s.size - (i + 2 + q.toNat) ≤ m := by omega
            have p9 : 3 * m + 140 ≤ k := by omega
            have p10 : 129 ≤ k := by omega
            have hdz : (B (r.take q.toNat)).size = q.toNat := by rw [size_B, List.length_take]; omega
            have hfd := fit_add hf (c.toNat : Int) (B (r.take q.toNat)) (by omega)
            have hext : s.extract (i + 2) (i + 2 + q.toNat) = B (r.take q.toNat) := ext_L (by rw [L_extract, L_B, ← hr2, show i + 2 = i + 1 + 1 by omega]; congr 1; omega)
            have HNX := Aside0.mk (show wrap64 (((i : Int) + 2) + (((B (r.take q.toNat)).size : Nat) : Int)) = ((i + 2 + q.toNat : Nat) : Int) from by rw [hdz, w64 (by omega)]; omega)
            have hrest : (L s).drop (i + 2 + q.toNat) = r.drop q.toNat := by rw [← hr2, List.drop_drop]
            rw [if_neg p6]
            simp only [W1.out, W2.out, hb2, W3.out, W4.out, ht1, ht2, hext, HNX.out]
            rw [if_pos p1, if_pos p2, if_pos p3, if_pos p4, if_pos p5, place_eq l _ (Nat.le_trans hf.1 (by decide)) (Nat.le_trans (Nat.add_le_add_right hf.1 1) p10), Option.bind_some]
            simp only [areaL, h255, h0, hsh, if_false]
            unfold addS at hfd
            rcases idx_cases (c.toNat : Int) l with ⟨e1, e2⟩ | ⟨j, j1, e1, e2, e3⟩
            · have hz : idxOf (c.toNat : Int) l 0 < 0 := by omega
              rw [if_pos hz] at hfd
              rw [if_pos hz]
              unfold addS
              rw [if_pos hz]
              by_cases h128 : 128 ≤ l.length
              · rw [if_pos (show (l.length : Int) ≥ 128 by omega), if_pos h128]; rfl
              · rw [if_neg h128] at hfd
                rw [if_neg (show ¬ (l.length : Int) ≥ 128 by omega), if_neg h128, if_pos (show l.length < 5864062014805 by have := hf.1; omega)]
                rw [if_pos rfl, ih m (by omega) k _ s (i + 2 + q.toNat) hs p7 p8 hfd p9, hrest]
            · have hz : ¬ idxOf (c.toNat : Int) l 0 < 0 := by omega
              rw [if_neg hz, e1, Int.toNat_natCast] at hfd
              rw [if_neg hz]
              unfold addS
              rw [if_neg hz, e1, Int.toNat_natCast]
              have hrd : rd_T47 l (j : Int) = l.getD j z47 := rfl
              have hjs : (l.getD j z47).f1.size ≤ 4096 := by
                refine hf.2 _ ?_
                rw [List.getD_eq_getElem?_getD, List.getElem?_eq_getElem j1]
                exact List.getElem_mem j1
              rw [hrd, if_pos (by omega), if_pos (by omega), w64 (by omega)]
              by_cases hbig : 4096 < (l.getD j z47).f1.size + (B (r.take q.toNat)).size
              · rw [if_pos (by omega), if_pos hbig]; rfl
              · rw [if_neg hbig] at hfd
                rw [if_neg (by omega), if_neg hbig, if_pos (by omega)]
                rw [if_pos rfl, ih m (by omega) k _ s (i + 2 + q.toNat) hs p7 p8 hfd p9, hrest]
      · rw [if_neg (by omega), rarea_end, List.drop_eq_nil_of_le (by rw [← size_L]; omega), areaL_nil]
theorem rparse_go : ∀ (n k M : Nat) (l : List S47) (ar : List ByteArray) (i : Nat), M ≤ 140737500000000 → ar.length ≤ 140737488351232 → (∀ y ∈ ar, y.size ≤ M) → ar.length - i ≤ n → Fit l → n + 3 * M + 200 ≤ k → tenancyref13_Parse.l0 k ar l (i : Int) = some (parseL l (ar.drop i)) := by
  intro n
  induction n using Nat.strongRecOn with
  | ind n ih =>
      intro k M l ar i hM hs ha hn hf hk
      obtain ⟨k, rfl⟩ : ∃ m, k = m + 1 := ⟨k - 1, by omega⟩
      rw [tenancyref13_Parse.l0]
      by_cases hlt : i < ar.length
      · obtain ⟨m, rfl⟩ : ∃ m, n = m + 1 := ⟨n - 1, by omega⟩
        have hz := ha _ (List.getElem_mem hlt)
        have e := rarea_eq (ar[i].size) k l ar[i] 0 (by omega) (by omega) (by omega) hf (by omega)
        rw [List.drop_zero, show ((0 : Nat) : Int) = 0 from rfl] at e
        rw [if_pos (by omega), if_pos (by omega), rdOf_at ar i hlt, tenancyref13_area.f, e, Option.bind_some, List.drop_eq_getElem_cons hlt, parseL]
        by_cases h0 : (areaL ar[i].size l (L ar[i])).2 = 0
        · rw [if_pos h0, if_pos h0, w64 (by omega), show ((i : Int) + 1) = ((i + 1 : Nat) : Int) by omega, ih m (by omega) k M _ ar (i + 1) hM hs ha (by omega) (fit_area _ _ _ hf) (by omega)]
        · rw [if_neg h0, if_neg h0]
      · rw [if_neg (by omega), List.drop_eq_nil_of_le (by omega)]; rfl
theorem rparse_eq {k M : Nat} (hM : M ≤ 140737500000000) (ar : List ByteArray) (hs : ar.length ≤ 140737488351232) (ha : ∀ y ∈ ar, y.size ≤ M) (hk : ar.length + 3 * M + 200 ≤ k) : tenancyref13_Parse.f k ar = some (parseL [] ar) := by
  have h := rparse_go ar.length k M [] ar 0 hM hs ha (by omega) fit_nil hk
  rw [List.drop_zero] at h
  exact h
end Go.Proofs.Ytdhmlenmnobmfaa.Opt
