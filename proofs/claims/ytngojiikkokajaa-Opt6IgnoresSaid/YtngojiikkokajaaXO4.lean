/- Opt6: rows of options one behind the other: plain lemmas; no condition. -/
import Derived.Test.YtngojiikkokajaaG0
import Derived.Test.YtngojiikkokajaaG1
import Derived.Test.YtngojiikkokajaaG2
import Derived.Test.YtngojiikkokajaaG3
import Derived.Test.YtngojiikkokajaaG4
import Derived.Test.YtngojiikkokajaaG5
import Derived.Laws.BitsAllLaws
import Derived.Lib.Strings
import Derived.Test.YtngojiikkokajaaXO3
set_option linter.unusedVariables false
set_option linter.unusedSimpArgs false
namespace Go.Proofs.Ytngojiikkokajaa.O6
open Go Go.RowKit Go.Proofs.YtngojiikkokajaaW.PrintWords Go.Proofs.YtngojiikkokajaaW.PrintLast Go.Proofs.YtngojiikkokajaaW.PrintMore Go.Proofs.Ytngojiikkokajaa.X Go.Proofs.Ytngojiikkokajaa.Oct Go.Proofs.Ytngojiikkokajaa.Adr Go.Proofs.Ytngojiikkokajaa.Pre
/-- Whole options are read; then it goes on. -/
theorem prs_run : ∀ (zs : List S40) (pre rest : List UInt8) (d : Nat) (acc : List S40), emOk zs = true → (∀ x ∈ zs, okF x) → acc.length + zs.length ≤ 128 →
    prs (pre ++ emL zs ++ rest) (d + zs.length) acc (pre.length : Int) = prs (pre ++ emL zs ++ rest) d (acc ++ zs) ((pre ++ emL zs).length : Int)
  | [], pre, rest, d, acc, _, _, _ => by rw [emL, List.append_nil, List.append_nil]; rfl
  | x :: zs, pre, rest, d, acc, ho, hz, hl => by
    rw [List.length_cons] at hl
    obtain ⟨h1, h2⟩ := emOk_cons ho
    have hx := hz x List.mem_cons_self
    have hr : (L x.f1).length ≤ 65535 := by simpa [runOk] using h1
    have hrun : runL (L x.f1) = be2 (L x.f1).length ++ L x.f1 := by unfold runL; rw [if_pos h1]
    have e1 : pre ++ emL (x :: zs) ++ rest = pre ++ be2 x.f0 ++ ((be2 (L x.f1).length ++ L x.f1) ++ emL zs ++ rest) := by rw [emL, hrun]; simp only [List.append_assoc]
    have e2 : pre ++ emL (x :: zs) ++ rest = (pre ++ be2 x.f0) ++ (be2 (L x.f1).length ++ L x.f1) ++ (emL zs ++ rest) := by rw [emL, hrun]; simp only [List.append_assoc]
    have e3 : pre ++ emL (x :: zs) ++ rest = (pre ++ be2 x.f0 ++ (be2 (L x.f1).length ++ L x.f1)) ++ emL zs ++ rest := by rw [emL, hrun]; simp only [List.append_assoc]
    have e4 : pre ++ emL (x :: zs) = (pre ++ be2 x.f0 ++ (be2 (L x.f1).length ++ L x.f1)) ++ emL zs := by rw [emL, hrun]; simp only [List.append_assoc]
    have hpl : ((pre ++ be2 x.f0).length : Int) = (pre.length : Int) + 2 := by rw [List.length_append, be2_length]; omega
    have hc : cutB (pre ++ emL (x :: zs) ++ rest) (pre.length : Int) 2 = true := by rw [e1]; exact cutB_mid _ _ _ _ rfl
    have hg : getN (pre ++ emL (x :: zs) ++ rest) (pre.length : Int) 2 = x.f0 := by rw [e1, getN_mid pre (be2 x.f0) _ 2 rfl, num_be2 _ hx.1 hx.2]
    obtain ⟨t1, t2, t3⟩ := take_mid (pre ++ be2 x.f0) (L x.f1) (emL zs ++ rest) hr
    rw [← e2, hpl] at t1 t2 t3
    have hpos : (pre.length : Int) < ((pre ++ emL (x :: zs) ++ rest).length : Int) := by rw [e1, List.length_append, List.length_append, be2_length]; omega
    have hpre : ((pre ++ be2 x.f0 ++ (be2 (L x.f1).length ++ L x.f1)).length : Int) = (pre.length : Int) + 2 + 2 + ((L x.f1).length : Int) := by
      rw [List.length_append, List.length_append, List.length_append, be2_length, be2_length]; omega
    rw [List.length_cons, show d + (zs.length + 1) = (d + zs.length) + 1 from rfl, prs, if_pos hpos, if_pos ⟨hc, t1⟩, if_neg (by omega), hg, t2, t3, B_L, ← hpre, e3, e4]
    have ih := prs_run zs (pre ++ be2 x.f0 ++ (be2 (L x.f1).length ++ L x.f1)) rest d (acc ++ [x]) h2 (fun y hy => hz y (List.mem_cons_of_mem _ hy)) (by rw [List.length_append, List.length_singleton]; omega)
    rw [ih, List.append_assoc acc]
    rfl
theorem emOk_append (a b : List S40) : emOk (a ++ b) = (emOk a && emOk b) := by unfold emOk; rw [List.all_append]
/-- More than 128 are too many. -/
theorem opts_many (zs : List S40) (ho : emOk zs = true) (hz : ∀ x ∈ zs, okF x) (hl : 128 < zs.length) : opts (emL zs) = ([], 6) := by
  obtain ⟨a, z, b, rfl, ha⟩ : ∃ a z b, zs = a ++ z :: b ∧ a.length = 128 := by
    refine ⟨zs.take 128, zs[128], zs.drop 129, ?_, by rw [List.length_take]; omega⟩
    rw [← List.drop_eq_getElem_cons hl, List.take_append_drop]
  rw [emOk_append, Bool.and_eq_true] at ho
  obtain ⟨h1, h2⟩ := emOk_cons ho.2
  have hx := hz z (List.mem_append_right _ List.mem_cons_self)
  have hr : (L z.f1).length ≤ 65535 := by simpa [runOk] using h1
  have hrun : runL (L z.f1) = be2 (L z.f1).length ++ L z.f1 := by unfold runL; rw [if_pos h1]
  have hge := emL_ge (a ++ z :: b)
  rw [List.length_append, List.length_cons, ha] at hge
  unfold opts
  obtain ⟨d, hd⟩ : ∃ d, (emL (a ++ z :: b)).length + 1 = (d + 1) + a.length := ⟨(emL (a ++ z :: b)).length - 128, by rw [ha]; omega⟩
  have run := prs_run a [] (emL (z :: b)) (d + 1) [] ho.1 (fun y hy => hz y (List.mem_append_left _ hy)) (by rw [ha]; decide)
  rw [List.nil_append, List.nil_append, ← emL_append] at run
  rw [hd]
  refine Eq.trans run ?_
  have e1 : emL (a ++ z :: b) = emL a ++ be2 z.f0 ++ ((be2 (L z.f1).length ++ L z.f1) ++ emL b) := by rw [emL_append, emL, hrun]; simp only [List.append_assoc]
  have e2 : emL (a ++ z :: b) = (emL a ++ be2 z.f0) ++ (be2 (L z.f1).length ++ L z.f1) ++ emL b := by rw [emL_append, emL, hrun]; simp only [List.append_assoc]
  have hpl : ((emL a ++ be2 z.f0).length : Int) = ((emL a).length : Int) + 2 := by rw [List.length_append, be2_length]; omega
  have hc : cutB (emL (a ++ z :: b)) ((emL a).length : Int) 2 = true := by rw [e1]; exact cutB_mid _ _ _ _ rfl
  obtain ⟨t1, t2, t3⟩ := take_mid (emL a ++ be2 z.f0) (L z.f1) (emL b) hr
  rw [← e2, hpl] at t1
  have hpos : ((emL a).length : Int) < ((emL (a ++ z :: b)).length : Int) := by rw [e1, List.length_append, List.length_append, be2_length]; omega
  rw [prs, if_pos hpos, if_pos ⟨hc, t1⟩, if_pos (by rw [ha]; decide)]
/-- The last byte is missing. -/
theorem opts_short (zs : List S40) (ho : emOk zs = true) (hz : ∀ x ∈ zs, okF x) (hl : zs.length ≤ 128) (hn : zs ≠ []) : (opts ((emL zs).take ((emL zs).length - 1))).2 = 3 := by
  obtain ⟨a, z, rfl⟩ : ∃ a z, zs = a ++ [z] := ⟨zs.dropLast, zs.getLast hn, (List.dropLast_concat_getLast hn).symm⟩
  rw [emOk_append, Bool.and_eq_true] at ho
  obtain ⟨h1, h2⟩ := emOk_cons ho.2
  have hr : (L z.f1).length ≤ 65535 := by simpa [runOk] using h1
  have hrun : runL (L z.f1) = be2 (L z.f1).length ++ L z.f1 := by unfold runL; rw [if_pos h1]
  have hR : (be2 (L z.f1).length ++ L z.f1).length = 2 + (L z.f1).length := by rw [List.length_append, be2_length]
  have e0 : emL (a ++ [z]) = (emL a ++ be2 z.f0) ++ (be2 (L z.f1).length ++ L z.f1) := by rw [emL_append, emL, emL, List.append_nil, hrun]; simp only [List.append_assoc]
  have hle : (emL (a ++ [z])).length = (emL a).length + 2 + (2 + (L z.f1).length) := by rw [e0, List.length_append, List.length_append, be2_length, hR]
  have e1 : (emL (a ++ [z])).take ((emL (a ++ [z])).length - 1) = (emL a ++ be2 z.f0) ++ (be2 (L z.f1).length ++ L z.f1).take (1 + (L z.f1).length) := by
    rw [hle, e0, List.take_append, List.take_of_length_le (by rw [List.length_append, be2_length]; omega)]
    congr 2
    rw [List.length_append, be2_length]
    omega
  have e2 : (emL (a ++ [z])).take ((emL (a ++ [z])).length - 1) = [] ++ emL a ++ (be2 z.f0 ++ (be2 (L z.f1).length ++ L z.f1).take (1 + (L z.f1).length)) := by rw [e1]; simp only [List.append_assoc, List.nil_append]
  have hlt : ((be2 (L z.f1).length ++ L z.f1).take (1 + (L z.f1).length)).length = 1 + (L z.f1).length := by rw [List.length_take, hR]; omega
  have hts := take_short (emL a ++ be2 z.f0) (L z.f1) (1 + (L z.f1).length) hr (by omega)
  rw [← e1, show ((emL a ++ be2 z.f0).length : Int) = ((emL a).length : Int) + 2 from by rw [List.length_append, be2_length]; omega] at hts
  have htl : ((emL (a ++ [z])).take ((emL (a ++ [z])).length - 1)).length = (emL a).length + 2 + (1 + (L z.f1).length) := by rw [e1, List.length_append, List.length_append, be2_length, hlt]
  have hge := emL_ge a
  unfold opts
  rw [htl]
  obtain ⟨d, hd⟩ : ∃ d, (emL a).length + 2 + (1 + (L z.f1).length) + 1 = (d + 1) + a.length := ⟨(emL a).length + 3 + (L z.f1).length - a.length, by omega⟩
  have run := prs_run a [] (be2 z.f0 ++ (be2 (L z.f1).length ++ L z.f1).take (1 + (L z.f1).length)) (d + 1) [] ho.1 (fun y hy => hz y (List.mem_append_left _ hy)) (by rw [List.length_append, List.length_singleton] at hl; simp; omega)
  rw [← e2, List.nil_append, List.nil_append] at run
  rw [hd]
  refine (congrArg Prod.snd run).trans ?_
  rw [prs, if_pos (by rw [htl]; omega), if_neg (fun q => by rw [hts] at q; exact absurd q.2 (by decide))]
/-- What was read is what would be written. -/
theorem drop_cut {l : List UInt8} {i n : Int} (h : cutB l i n = true) : l.drop i.toNat = cutL l i n ++ l.drop (i + n).toNat := by
  have hb := cutB_bound h
  unfold cutL
  rw [if_pos h, show (i + n).toNat = i.toNat + n.toNat from by omega, ← List.drop_drop, List.take_append_drop]
theorem be2_cut {l : List UInt8} {i : Int} (h : cutB l i 2 = true) : be2 (getN l i 2) = cutL l i 2 := by
  have hl : (cutL l i 2).length = 2 := by rw [cutL_length, if_pos h]; rfl
  unfold getN
  match hc : cutL l i 2, hl with
  | [x, y], _ => exact be2_num x y
theorem prs_back (l : List UInt8) (d : Nat) : ∀ (acc : List S40) (i : Int) (r : List S40), 0 ≤ i → i ≤ l.length → (l.length : Int) - i < d → prs l d acc i = (r, 0) → ∃ zs, r = acc ++ zs ∧ emL zs = l.drop i.toNat ∧ emOk zs = true ∧ (∀ x ∈ zs, okF x) := by
  induction d with
  | zero => intro acc i r h0 h1 hd; omega
  | succ d ih =>
    intro acc i r h0 h1 hd h
    rw [prs] at h
    by_cases hlt : i < (l.length : Int)
    · rw [if_pos hlt] at h
      by_cases hc : cutB l i 2 = true ∧ takeOk l (i + 2) = true
      · rw [if_pos hc] at h
        by_cases h128 : 128 ≤ acc.length
        · rw [if_pos h128] at h
          exact absurd (Prod.mk.inj h).2 (by decide)
        · rw [if_neg h128] at h
          have hb := take_bound hc.2
          obtain ⟨zs, rfl, he, ho, hz⟩ := ih _ _ r (by omega) (by omega) (by omega) h
          have ht := hc.2
          unfold takeOk at ht
          rw [Bool.and_eq_true] at ht
          have hsm := takeL_small l (i + 2)
          have hr : runOk (L (B (takeL l (i + 2)))) = true := decide_eq_true (by rw [L_B]; exact hsm)
          have htl : takeL l (i + 2) = cutL l (i + 2 + 2) (getN l (i + 2) 2) := by unfold takeL; rw [if_pos hc.2]
          have htt : takeTo l (i + 2) = i + 2 + 2 + getN l (i + 2) 2 := by unfold takeTo; rw [if_pos hc.2]
          have hlen : ((takeL l (i + 2)).length : Int) = getN l (i + 2) 2 := by
            have hr2 := getN_range l (i + 2) 2
            rw [htl, cutL_length, if_pos ht.2]
            exact Int.toNat_of_nonneg hr2.1
          refine ⟨⟨getN l i 2, B (takeL l (i + 2))⟩ :: zs, by rw [List.append_assoc]; rfl, ?_, ?_, ?_⟩
          · rw [emL, he, be2_cut hc.1]
            show cutL l i 2 ++ runL (L (B (takeL l (i + 2)))) ++ _ = _
            unfold runL
            rw [if_pos hr, L_B, hlen, be2_cut ht.1, htl, htt, drop_cut hc.1, drop_cut ht.1, drop_cut ht.2]
            simp only [List.append_assoc]
          · unfold emOk
            rw [List.all_cons]
            exact Bool.and_eq_true_iff.2 ⟨hr, ho⟩
          · intro x hx
            rcases List.mem_cons.1 hx with rfl | hx
            · have hr2 := getN_range l i 2
              exact ⟨hr2.1, by simpa using hr2.2⟩
            · exact hz x hx
      · rw [if_neg hc] at h
        exact absurd (Prod.mk.inj h).2 (by decide)
    · rw [if_neg hlt] at h
      obtain rfl := (Prod.mk.inj h).1
      exact ⟨[], by rw [List.append_nil], by rw [List.drop_of_length_le (by omega)]; rfl, rfl, fun x hx => by cases hx⟩
theorem opts_back {l : List UInt8} {r : List S40} (h : opts l = (r, 0)) : emL r = l ∧ emOk r = true ∧ (∀ x ∈ r, okF x) ∧ r.length ≤ 128 := by
  have hok := opts_ok l
  obtain ⟨zs, hr, he, ho, hz⟩ := prs_back l (l.length + 1) [] 0 r (by omega) (by omega) (by omega) h
  rw [List.nil_append] at hr
  subst hr
  rw [h] at hok
  exact ⟨he, ho, hz, hok.2⟩
/-- What is not read gives nothing. -/
theorem prs_none (l : List UInt8) (d : Nat) : ∀ (acc : List S40) (i : Int) (r : List S40 × Int), prs l d acc i = r → r.2 ≠ 0 → r.1 = [] := by
  induction d with
  | zero => intro acc i r h hn; rw [prs] at h; subst h; exact absurd rfl hn
  | succ d ih =>
    intro acc i r h hn
    rw [prs] at h
    by_cases h1 : i < (l.length : Int)
    · rw [if_pos h1] at h
      by_cases h2 : cutB l i 2 = true ∧ takeOk l (i + 2) = true
      · rw [if_pos h2] at h
        by_cases h3 : 128 ≤ acc.length
        · rw [if_pos h3] at h; subst h; rfl
        · rw [if_neg h3] at h; exact ih _ _ r h hn
      · rw [if_neg h2] at h; subst h; rfl
    · rw [if_neg h1] at h; subst h; exact absurd rfl hn
end Go.Proofs.Ytngojiikkokajaa.O6
