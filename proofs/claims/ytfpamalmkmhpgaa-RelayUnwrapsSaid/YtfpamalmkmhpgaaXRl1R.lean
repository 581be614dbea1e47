/- The reference's side of the plain lemmas: no condition. -/
import Derived.Test.YtfpamalmkmhpgaaG0
import Derived.Test.YtfpamalmkmhpgaaG1
import Derived.Test.YtfpamalmkmhpgaaG2
import Derived.Test.YtfpamalmkmhpgaaG3
import Derived.Test.YtfpamalmkmhpgaaG4
import Derived.Test.YtfpamalmkmhpgaaG5
import Derived.Laws.BitsAllLaws
import Derived.Lib.Strings
import Derived.Test.YtfpamalmkmhpgaaXRl1
import Derived.Test.YtfpamalmkmhpgaaXOctRefG
set_option linter.unusedVariables false
set_option linter.unusedSimpArgs false
namespace Go.Proofs.Ytfpamalmkmhpgaa.Rl
open Go Go.RowKit Go.Proofs.YtfpamalmkmhpgaaW.PrintWords Go.Proofs.YtfpamalmkmhpgaaW.PrintLast Go.Proofs.YtfpamalmkmhpgaaW.PrintMore Go.Proofs.Ytfpamalmkmhpgaa.X Go.Proofs.Ytfpamalmkmhpgaa.Oct

theorem rparse_go (s : ByteArray) (hs : s.size ≤ 4611686018427387904) (d : Nat) : ∀ (k : Nat) (acc : List S42) (i : Int), 0 ≤ i → i ≤ s.size → (s.size : Int) - i < d → 2 * d + 20 ≤ k → acc.length ≤ 128 →
    tenancyref15_Parse.l0 k s acc i = some (prs (L s) d acc i) := by
  have hsz : ((L s).length : Int) = s.size := by rw [size_L]
  induction d with
  | zero => intro k acc i h0 h1 hd; omega
  | succ d ih =>
    intro k acc i h0 h1 hd hk hacc
    obtain ⟨k, rfl⟩ : ∃ m, k = m + 2 := ⟨k - 2, by omega⟩
    rw [tenancyref15_Parse.l0, prs]
    by_cases hlt : i < (s.size : Int)
    · rw [if_pos hlt, if_pos (by rw [hsz]; exact hlt), rget16 (by omega) s i hs (by omega), Option.bind_some, w64 (n := i + 2) (by omega), rtakeRun (by omega) s (i + 2) hs (by omega), Option.bind_some]
      dsimp only
      have hj : ∀ b, tenancyref15_Parse.j1 (k + 1) s acc (getN (L s) i 2) (B (takeL (L s) (i + 2))) (takeTo (L s) (i + 2)) b = if b = true then some (([] : List S42), 3) else if 128 ≤ acc.length then some ([], 6) else tenancyref15_Parse.l0 k s (acc ++ [⟨getN (L s) i 2, B (takeL (L s) (i + 2))⟩]) (takeTo (L s) (i + 2)) := by
        intro b
        rw [tenancyref15_Parse.j1]
        by_cases hb : b = true
        · rw [if_pos hb, if_pos hb]
        · rw [if_neg hb, if_neg hb]
          by_cases h128 : 128 ≤ acc.length
          · rw [if_pos (by omega), if_pos h128]
          · rw [if_neg (by omega), if_neg h128, if_pos (by omega)]
      by_cases hc : cutB (L s) i 2 = true
      · rw [if_pos hc, hj]
        by_cases ht : takeOk (L s) (i + 2) = true
        · rw [if_neg (by rw [ht]; decide), if_pos (show cutB (L s) i 2 = true ∧ takeOk (L s) (i + 2) = true from ⟨hc, ht⟩)]
          have hb := take_bound ht
          by_cases h128 : 128 ≤ acc.length
          · rw [if_pos h128, if_pos h128]
          · rw [if_neg h128, if_neg h128]
            exact ih k _ _ (by omega) (by omega) (by omega) (by omega) (by rw [List.length_append, List.length_singleton]; omega)
        · rw [if_pos (by rw [Bool.eq_false_iff.2 ht]; rfl), if_neg (fun h => ht h.2)]
      · rw [if_neg hc, hj, if_pos rfl, if_neg (fun h => hc h.1)]
    · rw [if_neg hlt, if_neg (by rw [hsz]; exact hlt)]
theorem rone_bad (zs : List S42) (hz : zs.length ≤ 128) (a0 a1 a2 a3 a4 : Int) (d : Nat) : ∀ (k i n : Nat) (c : Nat) (b s : ByteArray) (h : Bool), zs.length - i = d → i ≤ zs.length → 2 * d + 2 ≤ k → 2 ≤ n → c + d ≤ 1000 → n + d ≤ 1000 →
    tenancyref17_one.l0 k zs b (c : Int) (n : Int) (i : Int) a0 a1 a2 a3 a4 s h = some (fin a0 a1 a2 a3 a4 none) := by
  induction d with
  | zero =>
    intro k i n c b s h hd hi hk hn hc hn2
    obtain ⟨k, rfl⟩ : ∃ m, k = m + 1 := ⟨k - 1, by omega⟩
    rw [tenancyref17_one.l0, if_neg (by omega)]
    by_cases h1 : (c : Int) = 1
    · rw [if_pos h1, if_pos (by omega)]; rfl
    · rw [if_neg h1]; rfl
  | succ d ih =>
    intro k i n c b s h hd hi hk hn hc hn2
    obtain ⟨k, rfl⟩ : ∃ m, k = m + 2 := ⟨k - 2, by omega⟩
    have hlt : i < zs.length := by omega
    rw [tenancyref17_one.l0, if_pos (by omega), if_pos (by omega), w64 (n := (i : Int) + 1) (by omega), w64 (n := (c : Int) + 1) (by omega), w64 (n := (n : Int) + 1) (by omega)]
    generalize rd_T42 zs (i : Int) = x
    by_cases h9 : x.f0 = 9
    · rw [if_pos h9, if_neg (by omega)]
      exact ih (k + 1) (i + 1) n (c + 1) _ _ _ (by omega) (by omega) (by omega) (by omega) (by omega) (by omega)
    · rw [if_neg h9]
      by_cases h18 : x.f0 = 18
      · rw [if_pos h18]
        exact ih (k + 1) (i + 1) (n + 1) c _ _ _ (by omega) (by omega) (by omega) (by omega) (by omega) (by omega)
      · rw [if_neg h18]
        exact ih (k + 1) (i + 1) n c _ _ _ (by omega) (by omega) (by omega) (by omega) (by omega) (by omega)
theorem rone_go (zs : List S42) (hz : zs.length ≤ 128) (a0 a1 a2 a3 a4 : Int) (d : Nat) : ∀ (k i : Nat) (c : Nat) (b s : ByteArray) (h : Bool), zs.length - i = d → i ≤ zs.length → 2 * d + 2 ≤ k → c + d ≤ 1000 →
    tenancyref17_one.l0 k zs b (c : Int) ((if h = true then 1 else 0 : Nat) : Int) (i : Int) a0 a1 a2 a3 a4 s h = some (fin a0 a1 a2 a3 a4 (pick (zs.drop i) c b s h)) := by
  induction d with
  | zero =>
    intro k i c b s h hd hi hk hc
    obtain ⟨k, rfl⟩ : ∃ m, k = m + 1 := ⟨k - 1, by omega⟩
    rw [tenancyref17_one.l0, if_neg (by omega), List.drop_of_length_le (by omega), pick]
    by_cases h1 : c = 1
    · rw [if_pos (by omega), if_neg (by split <;> omega), if_pos h1]; rfl
    · rw [if_neg (by omega), if_neg h1]; rfl
  | succ d ih =>
    intro k i c b s h hd hi hk hc
    obtain ⟨k, rfl⟩ : ∃ m, k = m + 2 := ⟨k - 2, by omega⟩
    have hlt : i < zs.length := by omega
    rw [tenancyref17_one.l0, if_pos (by omega), if_pos (by omega), drop_at zs i hlt, pick, w64 (n := (i : Int) + 1) (by omega), w64 (n := (c : Int) + 1) (by omega)]
    generalize rd_T42 zs (i : Int) = x
    by_cases h9 : x.f0 = 9
    · rw [if_pos h9, if_pos h9, if_neg (by omega)]
      exact ih (k + 1) (i + 1) (c + 1) x.f1 s h (by omega) (by omega) (by omega) (by omega)
    · rw [if_neg h9, if_neg h9]
      by_cases h18 : x.f0 = 18
      · rw [if_pos h18, if_pos h18]
        by_cases hh : h = true
        · subst hh
          rw [if_pos rfl, if_pos rfl, show wrap64 (((1 : Nat) : Int) + 1) = ((2 : Nat) : Int) from by decide +kernel]
          exact rone_bad zs hz a0 a1 a2 a3 a4 d (k + 1) (i + 1) 2 c b _ _ (by omega) (by omega) (by omega) (by omega) (by omega) (by omega)
        · obtain rfl := Bool.eq_false_iff.2 hh
          rw [if_neg (by decide), if_neg (by decide), show wrap64 (((0 : Nat) : Int) + 1) = ((1 : Nat) : Int) from by decide +kernel]
          exact ih (k + 1) (i + 1) c b x.f1 true (by omega) (by omega) (by omega) (by omega)
      · rw [if_neg h18, if_neg h18]
        exact ih (k + 1) (i + 1) c b s h (by omega) (by omega) (by omega) (by omega)
theorem rparse_opts (s : ByteArray) (hs : s.size ≤ 65536) (k : Nat) (hk : 140000 ≤ k) : tenancyref15_Parse.f k (s.extract 34 s.size) = some (opts (L s)) := by
  unfold tenancyref15_Parse.f opts
  have he := extract34 s
  have hz : (s.extract 34 s.size).size ≤ s.size := by rw [ByteArray.size_extract]; omega
  rw [rparse_go (s.extract 34 s.size) (by omega) ((s.extract 34 s.size).size + 1) k [] 0 (by omega) (by omega) (by omega) (by omega) (by decide), he, size_L, he]
theorem rone_eq (s : ByteArray) (hs : s.size ≤ 65536) (k : Nat) (hk : 140000 ≤ k) : tenancyref17_one.f k s = some (oneS (L s)) := by
  unfold tenancyref17_one.f oneS
  have hsz : (L s).length = s.size := by rw [size_L]
  by_cases h : (L s).length < 34
  · rw [if_pos h, if_pos (by omega)]
  · rw [if_neg h, if_neg (by omega), if_pos (by omega), rparse_opts s hs k hk, Option.bind_some]
    by_cases he : (opts (L s)).2 = 0
    · obtain ⟨c1, c2, c3⟩ := cut_cut (L s) (by omega) 2 (by omega)
      obtain ⟨d1, d2, d3⟩ := cut_cut (L s) (by omega) 18 (by omega)
      have hy : wrap64 (bt s 1) = (((L s).getD 1 0).toNat : Int) := by
        have := bt_getD s 1 (by omega)
        rw [show ((1 : Nat) : Int) = 1 from rfl] at this
        rw [this, w64 (byte_range _)]
      have ho := prs_ok ((L s).drop 34) (((L s).drop 34).length + 1) [] 0 (by decide) (fun x hx => by cases hx)
      have e2 : ((2 : Nat) : Int) = 2 := rfl
      have e18 : ((18 : Nat) : Int) = 18 := rfl
      rw [e2] at c1 c2 c3
      rw [e18] at d1 d2 d3
      rw [if_pos he, if_pos he, if_pos (by omega), rgetAddr (by omega) _ 2 (by omega) (by omega), Option.bind_some, rgetAddr (by omega) _ 18 (by omega) (by omega), Option.bind_some, if_pos c3, if_pos d3, hy]
      exact rone_go (opts (L s)).1 ho.2 _ _ _ _ _ _ k 0 0 NIL NIL false rfl (by omega) (by have := ho.2; show 2 * ((opts (L s)).1.length - 0) + 2 ≤ k; unfold opts; omega) (by have := ho.2; show 0 + ((opts (L s)).1.length - 0) ≤ 1000; unfold opts; omega)
    · rw [if_neg he, if_neg he]
theorem runw_go (kind : Int) (d : Nat) : ∀ (k : Nat) (s : ByteArray) (acc : List S39), s.size ≤ 65536 → 33 ≤ acc.length + d → acc.length ≤ 32 → 140100 + 2 * d ≤ k →
    tenancyref17_Unwrap.l0 k kind s acc = some (unw kind d (L s) acc) := by
  induction d with
  | zero => intro k s acc hs h1 h2; omega
  | succ d ih =>
    intro k s acc hs h1 h2 hk
    obtain ⟨k, rfl⟩ : ∃ m, k = m + 2 := ⟨k - 2, by omega⟩
    have hj : ∀ b, tenancyref17_Unwrap.j1 (k + 1) kind s acc b = some (if b = true then (if 32 ≤ acc.length then ([], NIL, 170) else if (oneS (L s)).2.2.2.2.2.2.2.2 = 0 then unw kind d (L (oneS (L s)).2.2.2.2.2.2.2.1) (acc ++ [rel (oneS (L s))]) else ([], NIL, (oneS (L s)).2.2.2.2.2.2.2.2)) else (acc, B (L s), 0)) := by
      intro b
      rw [tenancyref17_Unwrap.j1]
      by_cases hb : b = true
      · rw [if_pos hb, if_pos hb]
        by_cases h32 : 32 ≤ acc.length
        · rw [if_pos (by omega), if_pos h32]
        · rw [if_neg (by omega), if_neg h32, rone_eq s hs k (by omega), Option.bind_some]
          by_cases he : (oneS (L s)).2.2.2.2.2.2.2.2 = 0
          · rw [if_pos he, if_pos he, if_pos (by omega)]
            exact ih k _ _ (by have := (one_ok (L s)).1; omega) (by rw [List.length_append, List.length_singleton]; omega) (by rw [List.length_append, List.length_singleton]; omega) (by omega)
          · rw [if_neg he, if_neg he]
      · rw [if_neg hb, if_neg hb, B_L]
    have hsz : (L s).length = s.size := by rw [size_L]
    have hmid : ∀ (hkd : (kind == 12 || kind == 13) = true), (if (s.size : Int) > 0 then (if 0 < (s.size : Int) then (tenancyref17_Unwrap.j1 (k + 1) kind s acc ((wrap64 (bt s 0)) == kind)) else none) else (tenancyref17_Unwrap.j1 (k + 1) kind s acc false)) = some (unw kind (d + 1) (L s) acc) := by
      intro hkd
      rw [unw]
      cases hl : L s with
      | nil =>
        have hz : s.size = 0 := by rw [← hsz, hl]; rfl
        rw [if_neg (by omega), hj, hl]
        have hh : hit kind [] = false := by unfold hit; rw [Bool.and_false]
        rw [hh]
      | cons c cs =>
        have hz : 0 < s.size := by rw [← hsz, hl]; exact Nat.succ_pos _
        have hb0 : bt s 0 = (c.toNat : Int) := by
          have := bt_getD s 0 hz
          rw [hl] at this
          exact this
        have hh : hit kind (c :: cs) = ((c.toNat : Int) == kind) := by unfold hit; rw [hkd]; rfl
        rw [if_pos (by omega), if_pos (by omega), hj, hb0, w64 (byte_range c), hl, hh]
    rw [tenancyref17_Unwrap.l0]
    by_cases h12 : kind = 12
    · rw [if_pos h12]; exact hmid (by simp [h12])
    · rw [if_neg h12]
      by_cases h13 : kind = 13
      · rw [if_pos h13]; exact hmid (by simp [h13])
      · rw [if_neg h13, hj, unw]
        have hh : hit kind (L s) = false := by unfold hit; simp [h12, h13]
        rw [hh]
theorem runwrap_eq (k : Nat) (hk : 150000 ≤ k) (kind : Int) (s : ByteArray) : tenancyref17_Unwrap.f k kind s = some (if 65507 < s.size then ([], NIL, 6) else unw kind 33 (L s) []) := by
  unfold tenancyref17_Unwrap.f
  by_cases h : 65507 < s.size
  · rw [if_pos (by omega), if_pos h]
  · rw [if_neg (by omega), if_neg h]
    exact runw_go kind 33 k s [] (by omega) (by decide) (by decide) (by omega)
end Go.Proofs.Ytfpamalmkmhpgaa.Rl
