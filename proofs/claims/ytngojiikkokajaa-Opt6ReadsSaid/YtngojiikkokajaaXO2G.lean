/- Opt6: how an association is read by the reference: plain lemmas; conditions: strings are within 2^62. -/
import Derived.Test.YtngojiikkokajaaG0
import Derived.Test.YtngojiikkokajaaG1
import Derived.Test.YtngojiikkokajaaG2
import Derived.Test.YtngojiikkokajaaG3
import Derived.Test.YtngojiikkokajaaG4
import Derived.Test.YtngojiikkokajaaG5
import Derived.Test.YtngojiikkokajaaG6
import Derived.Test.YtngojiikkokajaaG8
import Derived.Test.YtngojiikkokajaaG13
import Derived.Test.YtngojiikkokajaaG14
import Derived.Test.YtngojiikkokajaaG15
import Derived.Test.YtngojiikkokajaaG16
import Derived.Laws.BitsAllLaws
import Derived.Lib.Strings
import Derived.Test.YtngojiikkokajaaXRS
import Derived.Test.YtngojiikkokajaaXOctRefG2
import Derived.Test.YtngojiikkokajaaXO1G
set_option linter.unusedVariables false
set_option linter.unusedSimpArgs false
namespace Go.Proofs.Ytngojiikkokajaa.O6
open Go Go.RowKit Go.Proofs.YtngojiikkokajaaW.PrintWords Go.Proofs.YtngojiikkokajaaW.PrintLast Go.Proofs.YtngojiikkokajaaW.PrintMore Go.Proofs.Ytngojiikkokajaa.X Go.Proofs.Ytngojiikkokajaa.Oct Go.Proofs.Ytngojiikkokajaa.Adr Go.Proofs.Ytngojiikkokajaa.Pre
theorem rword_eq (s : ByteArray) (at_ : Int) (hs : s.size ≤ 4611686018427387904) (ha : -9223372036854775808 ≤ at_ ∧ at_ ≤ 9223372036854775807) (k : Nat) (hk : 12 ≤ k) : tenancyref15_word.f k s at_ = some (getN (L s) at_ 4) := by
  unfold tenancyref15_word.f
  rw [rget32 (by omega) s at_ hs ha, Option.bind_some]
def stR (r : Option Int) : Int × Int := match r with | some c => (c, 0) | none => (0, 130)
theorem rst_go (zs : List S40) (hz : zs.length ≤ 128) (hs : ∀ x ∈ zs, okS x) (d : Nat) : ∀ (k i : Nat) (cur : Int), zs.length - i = d → i ≤ zs.length → d + 20 ≤ k → (cur = -1 ∨ 0 ≤ cur) →
    tenancyref15_statuses.l0 k zs cur (i : Int) = some (stR (stL (zs.drop i) cur)) := by
  induction d with
  | zero =>
    intro k i cur hd hi hk hc
    obtain ⟨k, rfl⟩ : ∃ m, k = m + 1 := ⟨k - 1, by omega⟩
    rw [tenancyref15_statuses.l0, if_neg (by omega), List.drop_of_length_le (by omega)]
    rfl
  | succ d ih =>
    intro k i cur hd hi hk hc
    obtain ⟨k, rfl⟩ : ∃ m, k = m + 1 := ⟨k - 1, by omega⟩
    have hlt : i < zs.length := by omega
    have hx : okS (rd_T40 zs (i : Int)) := hs _ (by
      have : rd_T40 zs (i : Int) = zs[i] := by simp [rd_T40, List.getD_eq_getElem?_getD, List.getElem?_eq_getElem hlt]
      rw [this]; exact List.getElem_mem hlt)
    have hn := fun c h => ih k (i + 1) c (by omega) (by omega) (by omega) h
    rw [tenancyref15_statuses.l0, if_pos (by omega), if_pos (by omega), drop_at zs i hlt, stL, w64 (by omega)]
    rw [show ((i : Int) + 1) = ((i + 1 : Nat) : Int) from rfl]
    generalize rd_T40 zs (i : Int) = x at hx ⊢
    by_cases h13 : x.f0 = 13
    · rw [if_pos h13, if_pos h13, rgetStatus_eq _ hx k (by omega), Option.bind_some]
      by_cases hcb : cutB (L x.f1) 0 2 = true
      · have hg := getN2 (L x.f1) 0
        rw [if_pos hcb, if_pos hcb]
        dsimp only
        rw [if_pos rfl]
        rcases hc with rfl | hc
        · rw [if_pos (by omega), if_pos rfl]
          exact hn _ (.inr hg.1)
        · rw [if_neg (by omega), if_neg (by omega)]
          exact hn _ (.inr hc)
      · rw [if_neg hcb, if_neg hcb]
        rfl
    · rw [if_neg h13, if_neg h13]
      exact hn _ hc
def riT (r : Except Int S76) : Int × Int × Int × Int × Int × Int × Int := match r with
  | .ok x => (x.f0.f0.f0, x.f0.f0.f1, x.f0.f1, x.f1, x.f2, x.f3, 0)
  | .error e => (0, 0, 0, 0, 0, 0, e)
theorem rj2_eq (k : Nat) (hk : 301 ≤ k) (data : ByteArray) (hd : data.size ≤ 4611686018427387904) (size : Nat) (hs : size ≤ data.size) (a0 a1 bits p v c0 : Int) (hsd : sd a0 a1 bits = true) :
    tenancyref15_inner.j2 k data size a0 a1 bits p v c0 = some (riT (rdT (L data) size a0 a1 bits p v)) := by
  obtain ⟨k, rfl⟩ : ∃ m, k = m + 1 := ⟨k - 1, by omega⟩
  rw [tenancyref15_inner.j2, if_pos (by omega), if_pos (by omega), Int.toNat_natCast, rparse_eq _ (by rw [ByteArray.size_extract]; omega) k (by omega), Option.bind_some, extract_from]
  unfold rdT
  rw [if_pos hsd]
  have hok := opts_ok ((L data).drop size)
  by_cases he : (opts ((L data).drop size)).2 = 0
  · rw [if_pos he, if_pos he]
    unfold tenancyref15_statuses.f
    rw [show (0 : Int) = ((0 : Nat) : Int) from rfl, rst_go _ hok.2 (fun x hx => okO_S (hok.1 x hx)) _ k 0 (-1) rfl (by omega) (by omega) (.inl rfl), Option.bind_some, List.drop_zero]
    cases stL (opts ((L data).drop size)).1 (-1) <;> rfl
  · rw [if_neg he, if_neg he]
    rfl
theorem rinner_eq (k : Nat) (hk : 400 ≤ k) (kind : Int) (data : ByteArray) (hd : data.size ≤ 4611686018427387904) : tenancyref15_inner.f k kind data = some (riT (rdI kind (L data))) := by
  obtain ⟨k, rfl⟩ : ∃ m, k = m + 2 := ⟨k - 2, by omega⟩
  unfold tenancyref15_inner.f rdI
  by_cases h4 : kind = 4
  · rw [if_pos h4, if_pos h4, tenancyref15_inner.j0, rcut data 0 25 hd (by omega) (by omega), Option.bind_some]
    by_cases hc : cutB (L data) 0 25 = true
    · have hb := cutB_bound hc
      have hl : (cutL (L data) 0 25).length = 25 := by rw [cutL_length, if_pos hc]; rfl
      have hc16 : cutB (cutL (L data) 0 25) 9 16 = true := by simp only [cutB, decide_eq_true_eq, hl]; omega
      have hz : (B (cutL (L data) 0 25)).size ≤ 4611686018427387904 := by rw [size_B, hl]; omega
      have e8 := bt_getD (B (cutL (L data) 0 25)) 8 (by rw [size_B, hl]; omega)
      have ga9 : ga (cutL (L data) 0 25) 9 = (getN (cutL (cutL (L data) 0 25) 9 16) 0 8, getN (cutL (cutL (L data) 0 25) 9 16) 8 8) := rfl
      dsimp only
      rw [hc, if_pos rfl, if_pos rfl, rword_eq _ 0 hz (by omega) _ (by omega), Option.bind_some, w64 (by omega), show ((0 : Int) + 4) = 4 from rfl, rword_eq _ 4 hz (by omega) _ (by omega), Option.bind_some, if_pos h4, if_pos (by rw [size_B, hl]; omega), show (8 : Int) = ((8 : Nat) : Int) from rfl, e8, w64 (byte_range _), tenancyref15_inner.j1, rgetAddr (by omega) _ 9 hz (by omega), Option.bind_some, L_B, if_pos hc16]
      dsimp only
      rw [if_pos h4, rsd_eq (by omega) _ _ _ (getN8 _ _) (getN8 _ _), Option.bind_some, ga9]
      dsimp only
      cases hsd : sd (getN (cutL (cutL (L data) 0 25) 9 16) 0 8) (getN (cutL (cutL (L data) 0 25) 9 16) 8 8) (((cutL (L data) 0 25).getD 8 0).toNat : Int) with
      | false =>
        unfold rdT
        rw [hsd]
        rfl
      | true =>
        rw [if_pos rfl]
        exact rj2_eq k (by omega) data hd 25 (by rw [size_L]; omega) _ _ _ _ _ _ hsd
    · dsimp only
      rw [if_neg hc, if_neg hc]
      rfl
  · rw [if_neg h4, if_neg h4, tenancyref15_inner.j0, rcut data 0 24 hd (by omega) (by omega), Option.bind_some]
    by_cases hc : cutB (L data) 0 24 = true
    · have hb := cutB_bound hc
      have hl : (cutL (L data) 0 24).length = 24 := by rw [cutL_length, if_pos hc]; rfl
      have hc16 : cutB (cutL (L data) 0 24) 0 16 = true := by simp only [cutB, decide_eq_true_eq, hl]; omega
      have hz : (B (cutL (L data) 0 24)).size ≤ 4611686018427387904 := by rw [size_B, hl]; omega
      dsimp only
      rw [hc, if_pos rfl, if_pos rfl, rword_eq _ 16 hz (by omega) _ (by omega), Option.bind_some, w64 (by omega), show ((16 : Int) + 4) = 20 from rfl, rword_eq _ 20 hz (by omega) _ (by omega), Option.bind_some, if_neg h4, tenancyref15_inner.j1, rgetAddr (by omega) _ 0 hz (by omega), Option.bind_some, L_B, if_pos hc16]
      dsimp only
      rw [if_neg h4]
      exact rj2_eq k (by omega) data hd 24 (by rw [size_L]; omega) _ _ _ _ _ _ (sd_128 _ _)
    · dsimp only
      rw [if_neg hc, if_neg hc]
      rfl
def goT (kind t0 t1 t2 : Int) (r : Except Int (List S76 × Int)) : Int × Int × Int × Int × List S76 × Int × Int := match r with
  | .ok y => (kind, t0, t1, t2, y.1, y.2, 0)
  | .error e => (0, 0, 0, 0, [], 0, e)
theorem rgl_go (kind part t0 t1 t2 : Int) (hp : part ≠ 13) (zs : List S40) (hz : zs.length ≤ 128) (hs : ∀ x ∈ zs, okS x) (d : Nat) : ∀ (k i : Nat) (has : List S76) (cur : Int), zs.length - i = d → i ≤ zs.length → 2 * d + 420 ≤ k → has.length ≤ 8 → (cur = -1 ∨ 0 ≤ cur) →
    tenancyref15_GetIA.l0 k part zs (i : Int) kind t0 t1 t2 has cur = some (goT kind t0 t1 t2 (glL kind part (zs.drop i) has cur)) := by
  induction d with
  | zero =>
    intro k i has cur hd hi hk hh hc
    obtain ⟨k, rfl⟩ : ∃ m, k = m + 1 := ⟨k - 1, by omega⟩
    rw [tenancyref15_GetIA.l0, if_neg (by omega), List.drop_of_length_le (by omega)]
    rfl
  | succ d ih =>
    intro k i has cur hd hi hk hh hc
    obtain ⟨k, rfl⟩ : ∃ m, k = m + 2 := ⟨k - 2, by omega⟩
    have hlt : i < zs.length := by omega
    have hx : okS (rd_T40 zs (i : Int)) := hs _ (by
      have : rd_T40 zs (i : Int) = zs[i] := by simp [rd_T40, List.getD_eq_getElem?_getD, List.getElem?_eq_getElem hlt]
      rw [this]; exact List.getElem_mem hlt)
    have hn := fun hs c h1 h2 => ih k (i + 1) hs c (by omega) (by omega) (by omega) h1 h2
    have hj : ∀ c, tenancyref15_GetIA.j3 (k + 1) part zs (i : Int) kind t0 t1 t2 has c = if (rd_T40 zs (i : Int)).f0 = part then (if 8 ≤ has.length then some (0, 0, 0, 0, [], 0, 6) else (some (riT (rdI kind (L (rd_T40 zs (i : Int)).f1)))).bind fun b => if b.2.2.2.2.2.2 = 0 then tenancyref15_GetIA.l0 k part zs ((i + 1 : Nat) : Int) kind t0 t1 t2 (has ++ [⟨⟨⟨b.1, b.2.1⟩, b.2.2.1⟩, b.2.2.2.1, b.2.2.2.2.1, b.2.2.2.2.2.1⟩]) c else some (0, 0, 0, 0, [], 0, b.2.2.2.2.2.2)) else tenancyref15_GetIA.l0 k part zs ((i + 1 : Nat) : Int) kind t0 t1 t2 has c := fun c => by
      rw [tenancyref15_GetIA.j3, if_pos (by omega), if_pos (by omega), w64 (by omega)]
      by_cases hpp : (rd_T40 zs (i : Int)).f0 = part
      · rw [if_pos hpp, if_pos hpp]
        by_cases h8 : 8 ≤ has.length
        · rw [if_pos (by omega), if_pos h8]
        · rw [if_neg (by omega), if_neg h8, rinner_eq k (by omega) kind _ hx, Option.bind_some, Option.bind_some]
          simp only [show has.length < 3518437208883 from by omega, if_true]
          rfl
      · rw [if_neg hpp, if_neg hpp]
        rfl
    rw [tenancyref15_GetIA.l0, if_pos (by omega), if_pos (by omega), drop_at zs i hlt, glL]
    simp only [hj]
    clear hj
    generalize rd_T40 zs (i : Int) = x at hx ⊢
    by_cases h13 : x.f0 = 13
    · have hnp : ¬ x.f0 = part := fun e => hp (by rw [← e, h13])
      rw [if_pos h13, if_pos h13, rgetStatus_eq _ hx (k + 1) (by omega), Option.bind_some]
      by_cases hcb : cutB (L x.f1) 0 2 = true
      · have hg := getN2 (L x.f1) 0
        rw [if_pos hcb, if_pos hcb]
        dsimp only
        rw [if_pos rfl, if_neg hnp, if_neg hnp]
        rcases hc with rfl | hc
        · rw [if_pos (by omega), if_pos rfl]
          exact hn _ _ hh (.inr hg.1)
        · rw [if_neg (by omega), if_neg (by omega)]
          exact hn _ _ hh (.inr hc)
      · rw [if_neg hcb, if_neg hcb]
        rfl
    · rw [if_neg h13, if_neg h13]
      by_cases hpp : x.f0 = part
      · rw [if_pos hpp, if_pos hpp]
        by_cases h8 : 8 ≤ has.length
        · rw [if_pos h8, if_pos h8]
          rfl
        · rw [if_neg h8, if_neg h8, Option.bind_some]
          cases hr : rdI kind (L x.f1) with
          | error e => 
            have he := rdI_err hr
            show (if e = 0 then _ else _) = _
            rw [if_neg he]
            rfl
          | ok y =>
            show (if (0 : Int) = 0 then _ else _) = _
            rw [if_pos rfl]
            exact hn (has ++ [y]) _ (by rw [List.length_append, List.length_singleton]; omega) hc
      · rw [if_neg hpp, if_neg hpp]
        exact hn _ _ hh hc
theorem rj1_eq (k : Nat) (hk : 800 ≤ k) (kind part code : Int) (hp : part ≠ 13) (size : Nat) (data : ByteArray) (hd : data.size ≤ 4611686018427387904) (hs : size ≤ data.size) (t0 t1 t2 : Int) :
    tenancyref15_GetIA.j1 k size part code data kind t0 t1 t2 (-1) = some (if (opts ((L data).drop size)).2 = 0 then goT kind t0 t1 t2 (glL kind part (opts ((L data).drop size)).1 [] (-1)) else (0, 0, 0, 0, [], 0, (opts ((L data).drop size)).2)) := by
  obtain ⟨k, rfl⟩ : ∃ m, k = m + 1 := ⟨k - 1, by omega⟩
  have hok := opts_ok ((L data).drop size)
  rw [tenancyref15_GetIA.j1, if_pos (by omega), if_pos (by omega), Int.toNat_natCast, rparse_eq _ (by rw [ByteArray.size_extract]; omega) k (by omega), Option.bind_some, extract_from]
  by_cases he : (opts ((L data).drop size)).2 = 0
  · rw [if_pos he, if_pos he]
    exact rgl_go kind part t0 t1 t2 hp _ hok.2 (fun x hx => okO_S (hok.1 x hx)) _ k 0 [] (-1) rfl (by omega) (by omega) (by simp) (.inl rfl)
  · rw [if_neg he, if_neg he]
theorem goT_O (kind t0 t1 t2 : Int) (r : Except Int (List S76 × Int)) : goT kind t0 t1 t2 r = getO kind (match r with | .ok y => .ok (t0, t1, t2, y.1, y.2) | .error e => .error e) := by cases r <;> rfl
theorem rGet_eq (k : Nat) (hk : 900 ≤ k) (code : Int) (data : ByteArray) (hd : data.size ≤ 4611686018427387904) : tenancyref15_GetIA.f k code data = some (gI code (L data)) := by
  obtain ⟨k, rfl⟩ : ∃ m, k = m + 1 := ⟨k - 1, by omega⟩
  have g12 : ∀ (kind part : Int), part ≠ 13 → tenancyref15_GetIA.j0 (k + 1) 12 part code data kind 0 0 0 (-1) = some (getO kind (gB kind 12 part (L data))) := fun kind part hp => by
    rw [tenancyref15_GetIA.j0, rcut data 0 12 hd (by omega) (by omega), Option.bind_some]
    unfold gB
    by_cases hc : cutB (L data) 0 12 = true
    · have hb := cutB_bound hc
      have hl : (cutL (L data) 0 12).length = 12 := by rw [cutL_length, if_pos hc]; rfl
      have hz : (B (cutL (L data) 0 12)).size ≤ 4611686018427387904 := by rw [size_B, hl]; omega
      have j1 := rj1_eq k (by omega) kind part code hp 12 data hd (by rw [size_L]; omega) (getN (cutL (L data) 0 12) 0 4) (getN (cutL (L data) 0 12) 4 4) (getN (cutL (L data) 0 12) 8 4)
      dsimp only
      rw [hc, if_pos rfl, rword_eq _ 0 hz (by omega) _ (by omega), Option.bind_some, if_pos rfl, rword_eq _ 4 hz (by omega) _ (by omega), Option.bind_some, rword_eq _ 8 hz (by omega) _ (by omega), Option.bind_some, L_B]
      refine Eq.trans j1 ?_
      rw [if_pos (show cutB (L data) 0 ((12 : Nat) : Int) = true from hc)]
      by_cases he : (opts ((L data).drop 12)).2 = 0
      · rw [if_pos he, if_pos he, goT_O]
        rfl
      · rw [if_neg he, if_neg he]
        rfl
    · dsimp only
      rw [if_neg hc, if_neg (show ¬ cutB (L data) 0 ((12 : Nat) : Int) = true from hc)]
      rfl
  unfold tenancyref15_GetIA.f gI
  by_cases h3 : code = 3
  · rw [if_pos h3, if_pos h3, g12 2 5 (by decide)]
  · rw [if_neg h3, if_neg h3]
    by_cases h4 : code = 4
    · rw [if_pos h4, if_pos h4, tenancyref15_GetIA.j0, rcut data 0 4 hd (by omega) (by omega), Option.bind_some]
      unfold gB
      by_cases hc : cutB (L data) 0 4 = true
      · have hb := cutB_bound hc
        have hl : (cutL (L data) 0 4).length = 4 := by rw [cutL_length, if_pos hc]; rfl
        have hz : (B (cutL (L data) 0 4)).size ≤ 4611686018427387904 := by rw [size_B, hl]; omega
        have j1 := rj1_eq k (by omega) 3 5 code (by decide) 4 data hd (by rw [size_L]; omega) (getN (cutL (L data) 0 4) 0 4) 0 0
        have s1 := short4 (cutL (L data) 0 4) 4 (by decide) (by omega)
        have s2 := short4 (cutL (L data) 0 4) 8 (by decide) (by omega)
        dsimp only
        rw [hc, if_pos rfl, rword_eq _ 0 hz (by omega) _ (by omega), Option.bind_some, if_neg (by decide), L_B]
        refine Eq.trans j1 ?_
        rw [if_pos (show cutB (L data) 0 ((4 : Nat) : Int) = true from hc)]
        by_cases he : (opts ((L data).drop 4)).2 = 0
        · rw [if_pos he, if_pos he, goT_O]
          rw [show getN (cutL (L data) 0 ((4 : Nat) : Int)) 4 4 = 0 from s1, show getN (cutL (L data) 0 ((4 : Nat) : Int)) 8 4 = 0 from s2]
          rfl
        · rw [if_neg he, if_neg he]
          rfl
      · dsimp only
        rw [if_neg hc, if_neg (show ¬ cutB (L data) 0 ((4 : Nat) : Int) = true from hc)]
        rfl
    · rw [if_neg h4, if_neg h4]
      by_cases h25 : code = 25
      · rw [if_pos h25, if_pos h25, g12 4 26 (by decide)]
      · rw [if_neg h25, if_neg h25]
theorem glL_len (kind part : Int) : ∀ (zs : List S40) (has : List S76) (cur : Int) (y : List S76 × Int), has.length ≤ 8 → glL kind part zs has cur = .ok y → y.1.length ≤ 8
  | [], has, cur, y, hh, h => by rw [glL] at h; injection h with h; subst h; exact hh
  | x :: zs, has, cur, y, hh, h => by
    rw [glL] at h
    by_cases h13 : x.f0 = 13
    · rw [if_pos h13] at h
      by_cases hc : cutB (L x.f1) 0 2 = true
      · rw [if_pos hc] at h; exact glL_len kind part zs _ _ y hh h
      · rw [if_neg hc] at h; cases h
    · rw [if_neg h13] at h
      by_cases hp : x.f0 = part
      · rw [if_pos hp] at h
        by_cases h8 : 8 ≤ has.length
        · rw [if_pos h8] at h; cases h
        · rw [if_neg h8] at h
          cases hr : rdI kind (L x.f1) with
          | error e => rw [hr] at h; cases h
          | ok z => rw [hr] at h; exact glL_len kind part zs _ _ y (by rw [List.length_append, List.length_singleton]; omega) h
      · rw [if_neg hp] at h; exact glL_len kind part zs _ _ y hh h
theorem getO_len (kind : Int) (size : Nat) (part : Int) (l : List UInt8) : (getO kind (gB kind size part l)).2.2.2.2.1.length ≤ 8 := by
  unfold gB
  by_cases hc : cutB l 0 size = true
  · rw [if_pos hc]
    by_cases he : (opts (l.drop size)).2 = 0
    · rw [if_pos he]
      cases hg : glL kind part (opts (l.drop size)).1 [] (-1) with
      | error e => exact Nat.zero_le _
      | ok y => exact glL_len kind part _ _ _ y (by simp) hg
    · rw [if_neg he]; exact Nat.zero_le _
  · rw [if_neg hc]; exact Nat.zero_le _
theorem gI_len (code : Int) (l : List UInt8) : (gI code l).2.2.2.2.1.length ≤ 8 := by
  unfold gI
  by_cases h3 : code = 3
  · rw [if_pos h3]; exact getO_len _ _ _ _
  · rw [if_neg h3]
    by_cases h4 : code = 4
    · rw [if_pos h4]; exact getO_len _ _ _ _
    · rw [if_neg h4]
      by_cases h25 : code = 25
      · rw [if_pos h25]; exact getO_len _ _ _ _
      · rw [if_neg h25]; exact Nat.zero_le _
end Go.Proofs.Ytngojiikkokajaa.O6
