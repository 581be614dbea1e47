/- Opt6: what is written is read again; what is read can be written: plain lemmas; conditions: numbers are of their kind. -/
import Derived.Test.YtngojiikkokajaaG0
import Derived.Test.YtngojiikkokajaaG1
import Derived.Test.YtngojiikkokajaaG2
import Derived.Test.YtngojiikkokajaaG3
import Derived.Test.YtngojiikkokajaaG4
import Derived.Test.YtngojiikkokajaaG5
import Derived.Laws.BitsAllLaws
import Derived.Lib.Strings
import Derived.Test.YtngojiikkokajaaXO4
set_option linter.unusedVariables false
set_option linter.unusedSimpArgs false
namespace Go.Proofs.Ytngojiikkokajaa.O6
open Go Go.RowKit Go.Proofs.YtngojiikkokajaaW.PrintWords Go.Proofs.YtngojiikkokajaaW.PrintLast Go.Proofs.YtngojiikkokajaaW.PrintMore Go.Proofs.Ytngojiikkokajaa.X Go.Proofs.Ytngojiikkokajaa.Oct Go.Proofs.Ytngojiikkokajaa.Adr Go.Proofs.Ytngojiikkokajaa.Pre
theorem stZ_F (c : Int) : ∀ x ∈ stZ c, okF x := fun x hx => by
  unfold stZ at hx
  split at hx
  · cases hx
  · obtain rfl := List.mem_singleton.1 hx
    exact ⟨show (0 : Int) ≤ 13 by decide, show (13 : Int) < 65536 by decide⟩
theorem stZ_one (c : Int) : (stZ c).length ≤ 1 := by unfold stZ; split <;> simp
theorem cut_be2 (c : Int) : cutB (be2 c) 0 2 = true := rfl
theorem stD_in {c : Int} (h : 0 ≤ c ∧ c ≤ 65535) : cutB (L (B (stD c))) 0 2 = true ∧ getN (L (B (stD c))) 0 2 = c := by
  unfold stD
  rw [if_pos h, L_B]
  refine ⟨cut_be2 c, ?_⟩
  have := getN_head (be2 c) [] 2 rfl
  rw [List.append_nil] at this
  rw [this, num_be2 c h.1 (by omega)]
theorem cdB_in {c : Int} (h : cdB c = true) (hn : ¬ c = -1) : 0 ≤ c ∧ c ≤ 65535 := by
  have := of_decide_eq_true h
  omega
theorem stL_stZ {c : Int} (h : cdB c = true) : stL (stZ c) (-1) = some c := by
  unfold stZ
  by_cases hc : c = -1
  · rw [if_pos hc, hc]
    rfl
  · obtain ⟨h1, h2⟩ := stD_in (cdB_in h hc)
    rw [if_neg hc, stL, if_pos rfl, if_pos h1, if_pos rfl, stL, h2]
theorem opts_stZ (c : Int) : opts (emL (stZ c)) = (stZ c, 0) := opts_emit (stZ c) (stZ_ok c) (stZ_F c) (Nat.le_trans (stZ_one c) (by decide))
theorem ga_be8 (a b : Int) (ha : 0 ≤ a ∧ a < 18446744073709551616) (hb : 0 ≤ b ∧ b < 18446744073709551616) : getN (be8 a ++ be8 b) 0 8 = a ∧ getN (be8 a ++ be8 b) 8 8 = b := by
  refine ⟨?_, ?_⟩
  · rw [getN_head (be8 a) (be8 b) 8 rfl, num_be8 a ha.1 ha.2]
  · have := getN_mid (be8 a) (be8 b) [] 8 rfl
    rw [List.append_nil] at this
    exact this.trans (num_be8 b hb.1 hb.2)
theorem rdI_in (kind : Int) (x : S76) (hx : okX x) (hs : inS kind x = true) : rdI kind (inD kind x) = .ok x := by
  unfold inS at hs
  simp only [Bool.and_eq_true, Bool.or_eq_true, beq_iff_eq] at hs
  obtain ⟨hc, hsd, hk⟩ := hs
  obtain ⟨g1, g2⟩ := ga_be8 x.f0.f0.f0 x.f0.f0.f1 hx.1.1 hx.1.2
  have hb := sd_bits hsd
  have fin : ∀ (l : List UInt8) (n : Nat), l.drop n = emL (stZ x.f3) → rdT l n x.f0.f0.f0 x.f0.f0.f1 x.f0.f1 x.f1 x.f2 = .ok x := fun l n hl => by
    unfold rdT
    rw [hl, opts_stZ, if_pos hsd, if_pos rfl, stL_stZ hc]
  unfold rdI
  by_cases h4 : kind = 4
  · obtain ⟨H, hH⟩ : ∃ H, H = (be4 x.f1 ++ be4 x.f2) ++ ([b8 x.f0.f1] ++ (be8 x.f0.f0.f0 ++ be8 x.f0.f0.f1)) := ⟨_, rfl⟩
    have hl : H.length = 25 := by rw [hH]; rfl
    have hD : inD kind x = H ++ emL (stZ x.f3) := by unfold inD; rw [if_pos h4, hH]; simp only [List.append_assoc]
    have c1 : cutB (inD kind x) 0 25 = true := by rw [hD]; exact cutB_head H _ 25 (by rw [hl]; rfl)
    have c2 : cutL (inD kind x) 0 25 = H := by rw [hD]; exact cutL_head H _ 25 (by rw [hl]; rfl)
    have e0 : getN H 0 4 = x.f1 := by
      rw [hH, List.append_assoc, getN_head (be4 x.f1) _ 4 rfl, num_be4 _ hx.2.1.1 hx.2.1.2]
    have e4 : getN H 4 4 = x.f2 := by
      rw [hH]
      exact (getN_mid (be4 x.f1) (be4 x.f2) _ 4 rfl).trans (num_be4 _ hx.2.2.1 hx.2.2.2)
    have e8 : ((H.getD 8 0).toNat : Int) = x.f0.f1 := by
      have : H.getD 8 0 = b8 x.f0.f1 := by rw [hH]; rfl
      rw [this, b8_nat]
      omega
    have e9 : cutL H 9 16 = be8 x.f0.f0.f0 ++ be8 x.f0.f0.f1 := by
      have := cutL_mid ((be4 x.f1 ++ be4 x.f2) ++ [b8 x.f0.f1]) (be8 x.f0.f0.f0 ++ be8 x.f0.f0.f1) [] 16 rfl
      rw [List.append_nil] at this
      rw [hH, ← List.append_assoc (be4 x.f1 ++ be4 x.f2)]
      exact this
    rw [if_pos h4, if_pos c1, c2, e0, e4, e8]
    unfold ga
    rw [e9, g1, g2]
    exact fin _ 25 (by rw [hD]; exact List.drop_left' hl)
  · obtain ⟨H, hH⟩ : ∃ H, H = (be8 x.f0.f0.f0 ++ be8 x.f0.f0.f1) ++ (be4 x.f1 ++ be4 x.f2) := ⟨_, rfl⟩
    have hl : H.length = 24 := by rw [hH]; rfl
    have hD : inD kind x = H ++ emL (stZ x.f3) := by unfold inD; rw [if_neg h4, hH]; simp only [List.append_assoc]
    have c1 : cutB (inD kind x) 0 24 = true := by rw [hD]; exact cutB_head H _ 24 (by rw [hl]; rfl)
    have c2 : cutL (inD kind x) 0 24 = H := by rw [hD]; exact cutL_head H _ 24 (by rw [hl]; rfl)
    have h128 : x.f0.f1 = 128 := hk.resolve_left h4
    have e0 : cutL H 0 16 = be8 x.f0.f0.f0 ++ be8 x.f0.f0.f1 := by
      rw [hH]
      exact cutL_head (be8 x.f0.f0.f0 ++ be8 x.f0.f0.f1) _ 16 rfl
    have e16 : getN H 16 4 = x.f1 := by
      rw [hH, ← List.append_assoc]
      exact (getN_mid (be8 x.f0.f0.f0 ++ be8 x.f0.f0.f1) (be4 x.f1) _ 4 rfl).trans (num_be4 _ hx.2.1.1 hx.2.1.2)
    have e20 : getN H 20 4 = x.f2 := by
      have := getN_mid ((be8 x.f0.f0.f0 ++ be8 x.f0.f0.f1) ++ be4 x.f1) (be4 x.f2) [] 4 rfl
      rw [List.append_nil] at this
      rw [hH, ← List.append_assoc]
      exact this.trans (num_be4 _ hx.2.2.1 hx.2.2.2)
    rw [if_neg h4, if_pos c1, c2, e16, e20]
    unfold ga
    rw [e0, g1, g2]
    have := fin (inD kind x) 24 (by rw [hD]; exact List.drop_left' hl)
    rw [h128] at this
    exact this
def ptO (kind : Int) : Int := if kind = 4 then 26 else 5
theorem inO_f0 (kind : Int) (x : S76) : (inO kind x).f0 = ptO kind := rfl
theorem pt13 (kind : Int) : ¬ ptO kind = 13 := by unfold ptO; split <;> decide
theorem glL_append (kind part : Int) : ∀ (a b : List S40) (has : List S76) (cur : Int), glL kind part (a ++ b) has cur = match glL kind part a has cur with | .ok y => glL kind part b y.1 y.2 | .error e => .error e
  | [], b, has, cur => rfl
  | x :: a, b, has, cur => by
    rw [List.cons_append, glL, glL]
    by_cases h13 : x.f0 = 13
    · rw [if_pos h13, if_pos h13]
      by_cases hc : cutB (L x.f1) 0 2 = true
      · rw [if_pos hc, if_pos hc, glL_append kind part a b]
      · rw [if_neg hc, if_neg hc]
    · rw [if_neg h13, if_neg h13]
      by_cases hp : x.f0 = part
      · rw [if_pos hp, if_pos hp]
        by_cases h8 : 8 ≤ has.length
        · rw [if_pos h8, if_pos h8]
        · rw [if_neg h8, if_neg h8]
          cases rdI kind (L x.f1) with
          | error e => rfl
          | ok y => exact glL_append kind part a b _ _
      · rw [if_neg hp, if_neg hp, glL_append kind part a b]
theorem glL_map (kind : Int) (cur : Int) : ∀ (l has : List S76), (∀ x ∈ l, okX x ∧ inS kind x = true) → has.length + l.length ≤ 8 → glL kind (ptO kind) (l.map (inO kind)) has cur = .ok (has ++ l, cur)
  | [], has, _, _ => by rw [List.map_nil, glL, List.append_nil]
  | x :: l, has, h, hl => by
    rw [List.length_cons] at hl
    have hx := h x List.mem_cons_self
    have hr : rdI kind (L (inO kind x).f1) = .ok x := rdI_in kind x hx.1 hx.2
    rw [List.map_cons, glL, if_neg (by rw [inO_f0]; exact pt13 kind), if_pos (inO_f0 kind x), if_neg (by omega), hr]
    show glL kind (ptO kind) (l.map (inO kind)) (has ++ [x]) cur = _
    rw [glL_map kind cur l (has ++ [x]) (fun y hy => h y (List.mem_cons_of_mem _ hy)) (by rw [List.length_append, List.length_singleton]; omega), List.append_assoc]
    rfl
theorem glL_stZ (kind part : Int) (has : List S76) {c : Int} (h : cdB c = true) : glL kind part (stZ c) has (-1) = .ok (has, c) := by
  unfold stZ
  by_cases hc : c = -1
  · rw [if_pos hc, hc]
    rfl
  · obtain ⟨h1, h2⟩ := stD_in (cdB_in h hc)
    rw [if_neg hc, glL, if_pos rfl, if_pos h1, if_pos rfl, glL, h2]
theorem sndS_in {kind t1 t2 code : Int} {l : List S76} (h : sndS kind t1 t2 l code = true) : (∀ x ∈ l, inS kind x = true) ∧ kdS kind t1 t2 = true ∧ l.length ≤ 8 ∧ cdB code = true := by
  unfold sndS at h
  simp only [Bool.and_eq_true, decide_eq_true_eq, List.all_eq_true] at h
  exact h
theorem inO_ok (kind : Int) (l : List S76) : emOk (l.map (inO kind)) = true ∧ ∀ x ∈ l.map (inO kind), okF x := by
  refine ⟨?_, fun x hx => ?_⟩
  · unfold emOk
    rw [List.all_eq_true]
    intro x hx
    obtain ⟨y, _, rfl⟩ := List.mem_map.1 hx
    have := inD_len kind y
    exact decide_eq_true (by show (L (B (inD kind y))).length ≤ _; rw [L_B]; omega)
  · obtain ⟨y, _, rfl⟩ := List.mem_map.1 hx
    show 0 ≤ ptO kind ∧ ptO kind < 65536
    unfold ptO
    split <;> exact ⟨by decide, by decide⟩
theorem iaZ_ok (kind : Int) (l : List S76) (code : Int) (hl : l.length ≤ 8) : emOk (iaZ kind l code) = true ∧ (∀ x ∈ iaZ kind l code, okF x) ∧ (iaZ kind l code).length ≤ 9 := by
  have h1 := inO_ok kind l
  have h2 := stZ_one code
  refine ⟨?_, fun x hx => ?_, ?_⟩
  · unfold iaZ
    rw [emOk_append, h1.1, stZ_ok]
    rfl
  · exact (List.mem_append.1 hx).elim (h1.2 x) (stZ_F code x)
  · unfold iaZ
    rw [List.length_append, List.length_map]
    omega
theorem glL_iaZ {kind t1 t2 code : Int} {l : List S76} (hs : sndS kind t1 t2 l code = true) (h : ∀ x ∈ l, okX x) : glL kind (ptO kind) (iaZ kind l code) [] (-1) = .ok (l, code) := by
  obtain ⟨h1, _, h3, h4⟩ := sndS_in hs
  unfold iaZ
  rw [glL_append, glL_map kind (-1) l [] (fun x hx => ⟨h x hx, h1 x hx⟩) (by simpa using h3)]
  exact glL_stZ kind (ptO kind) l h4
theorem gB_put (kind : Int) (H E : List UInt8) (size : Nat) (hH : H.length = size) (zs : List S40) (he : opts E = (zs, 0)) (l : List S76) (c : Int) (hg : glL kind (ptO kind) zs [] (-1) = .ok (l, c)) : gB kind size (ptO kind) (H ++ E) = .ok (getN H 0 4, getN H 4 4, getN H 8 4, l, c) := by
  subst hH
  unfold gB
  rw [cutB_head H E _ rfl, if_pos rfl, cutL_head H E _ rfl, List.drop_left' rfl, he, if_pos rfl, hg]
/-- With any rows of options behind the head that are read as the association's. -/
theorem gI_any (kind iaid t1 t2 : Int) (l : List S76) (code : Int) (hs : kdS kind t1 t2 = true) (hi : ok4 iaid) (h1 : ok4 t1) (h2 : ok4 t2) (E : List UInt8) (zs : List S40) (he : opts E = (zs, 0)) (hg : glL kind (ptO kind) zs [] (-1) = .ok (l, code)) :
    gI (cdO kind) (hdP kind iaid t1 t2 ++ E) = (kind, iaid, t1, t2, l, code, 0) := by
  unfold kdS at hs
  unfold gI hdP
  by_cases h3 : kind = 3
  · subst h3
    rw [if_pos rfl, Bool.and_eq_true] at hs
    have ht1 : t1 = 0 := by simpa using hs.1
    have ht2 : t2 = 0 := by simpa using hs.2
    have hp : ptO 3 = 5 := rfl
    have g0 : getN (be4 iaid) 0 4 = iaid := by
      have := getN_head (be4 iaid) [] 4 rfl
      rw [List.append_nil] at this
      rw [this, num_be4 _ hi.1 hi.2]
    have hB := gB_put 3 (be4 iaid) E 4 rfl zs he l code hg
    rw [hp] at hB
    rw [if_pos rfl, if_neg (by decide), if_pos (by decide), hB, g0, short4 (be4 iaid) 4 (by decide) (by rw [be4_length]; omega), short4 (be4 iaid) 8 (by decide) (by rw [be4_length]; omega), ht1, ht2]
    rfl
  · rw [if_neg h3] at hs
    have h24 : kind = 2 ∨ kind = 4 := by simpa using hs
    have g0 : getN (be4 iaid ++ (be4 t1 ++ be4 t2)) 0 4 = iaid := by rw [getN_head (be4 iaid) _ 4 rfl, num_be4 _ hi.1 hi.2]
    have g4 : getN (be4 iaid ++ (be4 t1 ++ be4 t2)) 4 4 = t1 := by
      rw [← List.append_assoc]
      exact (getN_mid (be4 iaid) (be4 t1) (be4 t2) 4 rfl).trans (num_be4 _ h1.1 h1.2)
    have g8 : getN (be4 iaid ++ (be4 t1 ++ be4 t2)) 8 4 = t2 := by
      have := getN_mid (be4 iaid ++ be4 t1) (be4 t2) [] 4 rfl
      rw [List.append_nil] at this
      rw [← List.append_assoc]
      exact this.trans (num_be4 _ h2.1 h2.2)
    have hB := gB_put kind (be4 iaid ++ (be4 t1 ++ be4 t2)) E 12 rfl zs he l code hg
    rw [if_neg h3]
    rcases h24 with rfl | rfl
    · rw [show ptO 2 = 5 from rfl] at hB
      rw [if_pos (by decide), hB, g0, g4, g8]
      rfl
    · rw [show ptO 4 = 26 from rfl] at hB
      rw [if_neg (by decide), if_neg (by decide), if_pos (by decide), hB, g0, g4, g8]
      rfl
theorem gI_put (kind iaid t1 t2 : Int) (l : List S76) (code : Int) (hs : sndS kind t1 t2 l code = true) (h : ∀ x ∈ l, okX x) (hi : ok4 iaid) (h1 : ok4 t1) (h2 : ok4 t2) : gI (cdO kind) (hdP kind iaid t1 t2 ++ emL (iaZ kind l code)) = (kind, iaid, t1, t2, l, code, 0) := by
  obtain ⟨_, hk, hl, _⟩ := sndS_in hs
  obtain ⟨o1, o2, o3⟩ := iaZ_ok kind l code hl
  exact gI_any kind iaid t1 t2 l code hk hi h1 h2 _ _ (opts_emit _ o1 o2 (by omega)) (glL_iaZ hs h)
end Go.Proofs.Ytngojiikkokajaa.O6
