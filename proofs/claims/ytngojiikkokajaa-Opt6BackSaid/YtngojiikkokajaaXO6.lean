/- Opt6: what is read is an association, no longer than what it was read from: plain lemmas; no condition. -/
import Derived.Test.YtngojiikkokajaaG0
import Derived.Test.YtngojiikkokajaaG1
import Derived.Test.YtngojiikkokajaaG2
import Derived.Test.YtngojiikkokajaaG3
import Derived.Test.YtngojiikkokajaaG4
import Derived.Test.YtngojiikkokajaaG5
import Derived.Laws.BitsAllLaws
import Derived.Lib.Strings
import Derived.Test.YtngojiikkokajaaXO5
set_option linter.unusedVariables false
set_option linter.unusedSimpArgs false
namespace Go.Proofs.Ytngojiikkokajaa.O6
open Go Go.RowKit Go.Proofs.YtngojiikkokajaaW.PrintWords Go.Proofs.YtngojiikkokajaaW.PrintLast Go.Proofs.YtngojiikkokajaaW.PrintMore Go.Proofs.Ytngojiikkokajaa.X Go.Proofs.Ytngojiikkokajaa.Oct Go.Proofs.Ytngojiikkokajaa.Adr Go.Proofs.Ytngojiikkokajaa.Pre
def stN (c : Int) : Nat := if c = -1 then 0 else 6
theorem stZ_size {c : Int} (h : cdB c = true) : (emL (stZ c)).length = stN c := by
  unfold stZ stN
  by_cases hc : c = -1
  · rw [if_pos hc, if_pos hc]
    rfl
  · have hi := cdB_in h hc
    have hl : (stD c).length = 2 := by unfold stD; rw [if_pos hi]; rfl
    have hr : runOk (L (B (stD c))) = true := decide_eq_true (by rw [L_B, hl]; decide)
    rw [if_neg hc, if_neg hc, emL, emL, List.append_nil, List.length_append, be2_length]
    unfold runL
    rw [if_pos hr, List.length_append, be2_length, L_B, hl]
theorem em_one {x : S40} (h : runOk (L x.f1) = true) : (emL [x]).length = 4 + (L x.f1).length := by
  rw [emL, emL, List.append_nil, List.length_append, be2_length]
  unfold runL
  rw [if_pos h, List.length_append, be2_length]
  omega
theorem emL_cons (x : S40) (zs : List S40) : (emL (x :: zs)).length = (emL [x]).length + (emL zs).length := by
  rw [show x :: zs = [x] ++ zs from rfl, emL_append, List.length_append]
theorem getN2_cd (l : List UInt8) : cdB (getN l 0 2) = true ∧ ¬ getN l 0 2 = -1 := by
  have := getN2 l 0
  exact ⟨decide_eq_true ⟨by omega, by omega⟩, by omega⟩
theorem stL_ok : ∀ (zs : List S40) (cur c : Int), emOk zs = true → cdB cur = true → stL zs cur = some c → cdB c = true ∧ stN c ≤ stN cur + (emL zs).length
  | [], cur, c, _, hc, h => by
    rw [stL] at h
    obtain rfl := Option.some.inj h
    exact ⟨hc, Nat.le_add_right _ _⟩
  | x :: zs, cur, c, ho, hc, h => by
    obtain ⟨h1, h2⟩ := emOk_cons ho
    rw [stL] at h
    rw [emL_cons]
    by_cases h13 : x.f0 = 13
    · rw [if_pos h13] at h
      by_cases hcb : cutB (L x.f1) 0 2 = true
      · rw [if_pos hcb] at h
        have hb := cutB_bound hcb
        have he := em_one h1
        obtain ⟨g1, g2⟩ := getN2_cd (L x.f1)
        by_cases hcur : cur = -1
        · rw [if_pos hcur] at h
          have ih := stL_ok zs _ c h2 g1 h
          have : stN (getN (L x.f1) 0 2) = 6 := by unfold stN; rw [if_neg g2]
          exact ⟨ih.1, by have := ih.2; omega⟩
        · rw [if_neg hcur] at h
          have ih := stL_ok zs _ c h2 hc h
          exact ⟨ih.1, by have := ih.2; omega⟩
      · rw [if_neg hcb] at h
        cases h
    · rw [if_neg h13] at h
      have ih := stL_ok zs _ c h2 hc h
      exact ⟨ih.1, by have := ih.2; omega⟩
theorem rdT_ok {l : List UInt8} {size : Nat} {a0 a1 bits p v : Int} {y : S76} (h : rdT l size a0 a1 bits p v = .ok y) : ∃ c, y = ⟨⟨⟨a0, a1⟩, bits⟩, p, v, c⟩ ∧ sd a0 a1 bits = true ∧ cdB c = true ∧ stN c ≤ (l.drop size).length := by
  unfold rdT at h
  by_cases h1 : sd a0 a1 bits = true
  · rw [if_pos h1] at h
    by_cases h2 : (opts (l.drop size)).2 = 0
    · rw [if_pos h2] at h
      have hb := opts_back (l := l.drop size) (r := (opts (l.drop size)).1) (Prod.ext rfl h2)
      cases hs : stL (opts (l.drop size)).1 (-1) with
      | none => rw [hs] at h; cases h
      | some c =>
        rw [hs] at h
        injection h with h
        have := stL_ok _ (-1) c hb.2.1 rfl hs
        rw [hb.1] at this
        exact ⟨c, h.symm, h1, this.1, by have h0 : stN (-1) = 0 := rfl; have := this.2; omega⟩
    · rw [if_neg h2] at h; cases h
  · rw [if_neg h1] at h; cases h
theorem inD_size (kind : Int) (y : S76) (h : cdB y.f3 = true) : (inD kind y).length = (if kind = 4 then 25 else 24) + stN y.f3 := by
  have := stZ_size h
  unfold inD
  by_cases h4 : kind = 4
  · rw [if_pos h4, if_pos h4]
    simp only [List.length_append, be4_length, be8_length, List.length_cons, List.length_nil]
    omega
  · rw [if_neg h4, if_neg h4]
    simp only [List.length_append, be4_length, be8_length]
    omega
theorem rdI_ok {kind : Int} {l : List UInt8} {y : S76} (h : rdI kind l = .ok y) : okX y ∧ inS kind y = true ∧ (inD kind y).length ≤ l.length := by
  unfold rdI at h
  by_cases h4 : kind = 4
  · rw [if_pos h4] at h
    by_cases hc : cutB l 0 25 = true
    · have hb := cutB_bound hc
      rw [if_pos hc] at h
      obtain ⟨c, rfl, h1, h2, h3⟩ := rdT_ok h
      refine ⟨⟨⟨getN8 _ _, getN8 _ _⟩, getN4 _ _, getN4 _ _⟩, ?_, ?_⟩
      · unfold inS
        rw [h2, h1, h4]
        rfl
      · rw [inD_size _ _ h2, if_pos h4]
        rw [List.length_drop] at h3
        show 25 + stN c ≤ _
        omega
    · rw [if_neg hc] at h; cases h
  · rw [if_neg h4] at h
    by_cases hc : cutB l 0 24 = true
    · have hb := cutB_bound hc
      rw [if_pos hc] at h
      obtain ⟨c, rfl, h1, h2, h3⟩ := rdT_ok h
      refine ⟨⟨⟨getN8 _ _, getN8 _ _⟩, getN4 _ _, getN4 _ _⟩, ?_, ?_⟩
      · unfold inS
        rw [h2, h1]
        simp
      · rw [inD_size _ _ h2, if_neg h4]
        rw [List.length_drop] at h3
        show 24 + stN c ≤ _
        omega
    · rw [if_neg hc] at h; cases h
theorem glL_ok (kind part : Int) : ∀ (zs : List S40) (has : List S76) (cur : Int) (y : List S76 × Int), emOk zs = true → (∀ x ∈ has, okX x ∧ inS kind x = true) → has.length ≤ 8 → cdB cur = true → glL kind part zs has cur = .ok y →
    (∀ x ∈ y.1, okX x ∧ inS kind x = true) ∧ y.1.length ≤ 8 ∧ cdB y.2 = true ∧ (emL (y.1.map (inO kind))).length + stN y.2 ≤ (emL (has.map (inO kind))).length + stN cur + (emL zs).length
  | [], has, cur, y, _, hh, hl, hc, h => by
    rw [glL] at h
    injection h with h
    subst h
    exact ⟨hh, hl, hc, Nat.le_add_right _ _⟩
  | x :: zs, has, cur, y, ho, hh, hl, hc, h => by
    obtain ⟨h1, h2⟩ := emOk_cons ho
    have he := em_one h1
    rw [glL] at h
    rw [emL_cons]
    by_cases h13 : x.f0 = 13
    · rw [if_pos h13] at h
      by_cases hcb : cutB (L x.f1) 0 2 = true
      · rw [if_pos hcb] at h
        have hb := cutB_bound hcb
        obtain ⟨g1, g2⟩ := getN2_cd (L x.f1)
        by_cases hcur : cur = -1
        · rw [if_pos hcur] at h
          obtain ⟨q1, q2, q3, q4⟩ := glL_ok kind part zs has _ y h2 hh hl g1 h
          have : stN (getN (L x.f1) 0 2) = 6 := by unfold stN; rw [if_neg g2]
          exact ⟨q1, q2, q3, by omega⟩
        · rw [if_neg hcur] at h
          obtain ⟨q1, q2, q3, q4⟩ := glL_ok kind part zs has _ y h2 hh hl hc h
          exact ⟨q1, q2, q3, by omega⟩
      · rw [if_neg hcb] at h
        cases h
    · rw [if_neg h13] at h
      by_cases hp : x.f0 = part
      · rw [if_pos hp] at h
        by_cases h8 : 8 ≤ has.length
        · rw [if_pos h8] at h; cases h
        · rw [if_neg h8] at h
          cases hr : rdI kind (L x.f1) with
          | error e => rw [hr] at h; cases h
          | ok z =>
            rw [hr] at h
            obtain ⟨r1, r2, r3⟩ := rdI_ok hr
            obtain ⟨q1, q2, q3, q4⟩ := glL_ok kind part zs (has ++ [z]) cur y h2 (fun v hv => by
              rcases List.mem_append.1 hv with hv | hv
              · exact hh v hv
              · obtain rfl := List.mem_singleton.1 hv
                exact ⟨r1, r2⟩) (by rw [List.length_append, List.length_singleton]; omega) hc h
            have hz : (emL [inO kind z]).length = 4 + (inD kind z).length := by
              have hlz := inD_len kind z
              have := em_one (x := inO kind z) (decide_eq_true (by show (L (B (inD kind z))).length ≤ _; rw [L_B]; omega))
              rw [this]
              rfl
            rw [List.map_append, emL_append, List.length_append, List.map_cons, List.map_nil, hz] at q4
            exact ⟨q1, q2, q3, by omega⟩
      · rw [if_neg hp] at h
        obtain ⟨q1, q2, q3, q4⟩ := glL_ok kind part zs has cur y h2 hh hl hc h
        exact ⟨q1, q2, q3, by omega⟩
theorem glL_err (kind part : Int) : ∀ (zs : List S40) (has : List S76) (cur e : Int), glL kind part zs has cur = .error e → e ≠ 0
  | [], has, cur, e, h => by rw [glL] at h; cases h
  | x :: zs, has, cur, e, h => by
    rw [glL] at h
    by_cases h13 : x.f0 = 13
    · rw [if_pos h13] at h
      by_cases hcb : cutB (L x.f1) 0 2 = true
      · rw [if_pos hcb] at h; exact glL_err kind part zs _ _ e h
      · rw [if_neg hcb] at h; injection h with h; omega
    · rw [if_neg h13] at h
      by_cases hp : x.f0 = part
      · rw [if_pos hp] at h
        by_cases h8 : 8 ≤ has.length
        · rw [if_pos h8] at h; injection h with h; omega
        · rw [if_neg h8] at h
          cases hr : rdI kind (L x.f1) with
          | error e' => rw [hr] at h; injection h with h; subst h; exact rdI_err hr
          | ok z => rw [hr] at h; exact glL_err kind part zs _ _ e h
      · rw [if_neg hp] at h; exact glL_err kind part zs _ _ e h
theorem gB_err {kind : Int} {size : Nat} {part : Int} {l : List UInt8} {e : Int} (h : gB kind size part l = .error e) : e ≠ 0 := by
  unfold gB at h
  by_cases hc : cutB l 0 size = true
  · rw [if_pos hc] at h
    by_cases he : (opts (l.drop size)).2 = 0
    · rw [if_pos he] at h
      cases hg : glL kind part (opts (l.drop size)).1 [] (-1) with
      | ok y => rw [hg] at h; cases h
      | error e' => rw [hg] at h; injection h with h; subst h; exact glL_err _ _ _ _ _ _ hg
    · rw [if_neg he] at h; injection h with h; omega
  · rw [if_neg hc] at h; injection h with h; omega
theorem gB_ok {kind : Int} {size : Nat} {l : List UInt8} {y : Int × Int × Int × List S76 × Int} (h : gB kind size (ptO kind) l = .ok y) :
    y.1 = getN (cutL l 0 size) 0 4 ∧ y.2.1 = getN (cutL l 0 size) 4 4 ∧ y.2.2.1 = getN (cutL l 0 size) 8 4 ∧ (cutL l 0 size).length = size ∧ (∀ x ∈ y.2.2.2.1, okX x ∧ inS kind x = true) ∧ y.2.2.2.1.length ≤ 8 ∧ cdB y.2.2.2.2 = true ∧ size + (emL (iaZ kind y.2.2.2.1 y.2.2.2.2)).length ≤ l.length := by
  unfold gB at h
  by_cases hc : cutB l 0 size = true
  · have hb := cutB_bound hc
    rw [if_pos hc] at h
    by_cases he : (opts (l.drop size)).2 = 0
    · rw [if_pos he] at h
      have hbk := opts_back (l := l.drop size) (r := (opts (l.drop size)).1) (Prod.ext rfl he)
      cases hg : glL kind (ptO kind) (opts (l.drop size)).1 [] (-1) with
      | error e => rw [hg] at h; cases h
      | ok z =>
        rw [hg] at h
        injection h with h
        subst h
        obtain ⟨q1, q2, q3, q4⟩ := glL_ok kind (ptO kind) _ [] (-1) z hbk.2.1 (fun x hx => by cases hx) (by simp) rfl hg
        rw [hbk.1, List.length_drop] at q4
        refine ⟨rfl, rfl, rfl, ?_, q1, q2, q3, ?_⟩
        · rw [cutL_length, if_pos hc]
          exact Int.toNat_natCast _
        · show size + (emL (iaZ kind z.1 z.2)).length ≤ l.length
          unfold iaZ
          rw [emL_append, List.length_append, stZ_size q3]
          have h0 : stN (-1) = 0 := rfl
          have h1 : (emL (([] : List S76).map (inO kind))).length = 0 := rfl
          omega
    · rw [if_neg he] at h; cases h
  · rw [if_neg hc] at h; cases h
theorem hdP_len (kind i p q : Int) : (hdP kind i p q).length = if kind = 3 then 4 else 12 := by
  unfold hdP
  by_cases h3 : kind = 3
  · rw [if_pos h3, if_pos h3]; rfl
  · rw [if_neg h3, if_neg h3]; rfl
/-- What an option is read as: nothing, with an error; or what can be written, and is no longer. -/
theorem gI_read (code : Int) (l : List UInt8) : (∃ e, e ≠ 0 ∧ gI code l = (0, 0, 0, 0, [], 0, e)) ∨
    ∃ kind i p q h c, gI code l = (kind, i, p, q, h, c, 0) ∧ sndS kind p q h c = true ∧ (∀ x ∈ h, okX x) ∧ ok4 i ∧ ok4 p ∧ ok4 q ∧ (hdP kind i p q ++ emL (iaZ kind h c)).length ≤ l.length := by
  have key : ∀ (kind : Int) (size : Nat), (kind = 3 ∧ size = 4 ∨ kind = 2 ∧ size = 12 ∨ kind = 4 ∧ size = 12) → (∃ e, e ≠ 0 ∧ getO kind (gB kind size (ptO kind) l) = (0, 0, 0, 0, [], 0, e)) ∨
      ∃ kind' i p q h c, getO kind (gB kind size (ptO kind) l) = (kind', i, p, q, h, c, 0) ∧ sndS kind' p q h c = true ∧ (∀ x ∈ h, okX x) ∧ ok4 i ∧ ok4 p ∧ ok4 q ∧ (hdP kind' i p q ++ emL (iaZ kind' h c)).length ≤ l.length := fun kind size hk => by
    cases hg : gB kind size (ptO kind) l with
    | error e => exact .inl ⟨e, gB_err hg, rfl⟩
    | ok y =>
      obtain ⟨e1, e2, e3, e4, q1, q2, q3, q4⟩ := gB_ok hg
      refine .inr ⟨kind, y.1, y.2.1, y.2.2.1, y.2.2.2.1, y.2.2.2.2, rfl, ?_, fun x hx => (q1 x hx).1, ?_, ?_, ?_, ?_⟩
      · have hkd : kdS kind y.2.1 y.2.2.1 = true := by
          unfold kdS
          rcases hk with ⟨rfl, rfl⟩ | ⟨rfl, rfl⟩ | ⟨rfl, rfl⟩
          · rw [if_pos rfl, e2, e3, short4 _ 4 (by decide) (by omega), short4 _ 8 (by decide) (by omega)]
            rfl
          · rfl
          · rfl
        unfold sndS
        rw [hkd, q3, decide_eq_true q2, List.all_eq_true.2 (fun x hx => (q1 x hx).2)]
        rfl
      · rw [e1]; exact getN4 _ _
      · rw [e2]; exact getN4 _ _
      · rw [e3]; exact getN4 _ _
      · rw [List.length_append, hdP_len]
        rcases hk with ⟨rfl, rfl⟩ | ⟨rfl, rfl⟩ | ⟨rfl, rfl⟩
        · rw [if_pos rfl]; exact q4
        · rw [if_neg (by decide)]; exact q4
        · rw [if_neg (by decide)]; exact q4
  unfold gI
  by_cases h3 : code = 3
  · rw [if_pos h3]; exact key 2 12 (.inr (.inl ⟨rfl, rfl⟩))
  · rw [if_neg h3]
    by_cases h4 : code = 4
    · rw [if_pos h4]; exact key 3 4 (.inl ⟨rfl, rfl⟩)
    · rw [if_neg h4]
      by_cases h25 : code = 25
      · rw [if_pos h25]; exact key 4 12 (.inr (.inr ⟨rfl, rfl⟩))
      · rw [if_neg h25]; exact .inl ⟨130, by decide, rfl⟩
end Go.Proofs.Ytngojiikkokajaa.O6
