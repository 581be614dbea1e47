/- What is written is read again, and the lists that reading makes: plain lemmas. -/
import Derived.Test.YtdhmlenmnobmfaaG0
import Derived.Test.YtdhmlenmnobmfaaG1
import Derived.Test.YtdhmlenmnobmfaaG2
import Derived.Test.YtdhmlenmnobmfaaG3
import Derived.Laws.BitsAllLaws
import Derived.Lib.Strings
import Derived.Test.YtdhmlenmnobmfaaXOpt3
set_option linter.unusedVariables false
set_option linter.unusedSimpArgs false
namespace Go.Proofs.Ytdhmlenmnobmfaa.Opt
open Go.RowKit Go.Proofs.YtdhmlenmnobmfaaW.PrintWords Go.Proofs.YtdhmlenmnobmfaaW.PrintLast Go.Proofs.YtdhmlenmnobmfaaW.PrintMore Go.Proofs.Ytdhmlenmnobmfaa.X Go.Proofs.Ytdhmlenmnobmfaa.Oct

/-- A list that can be written. -/
def Good (l : List S47) : Prop := l.length ≤ 128 ∧ (∀ o ∈ l, (∃ c : UInt8, o.f0 = (c.toNat : Int) ∧ c ≠ 0 ∧ c ≠ 255) ∧ o.f1.size ≤ 4096) ∧ l.Pairwise (fun a b => a.f0 ≠ b.f0)
theorem good_nil : Good [] := ⟨by simp, by simp, List.Pairwise.nil⟩
theorem good_fit {l : List S47} (h : Good l) : Fit l := ⟨h.1, fun x hx => (h.2.1 x hx).2⟩
theorem getD_at {l : List S47} {j : Nat} (h : j < l.length) : l.getD j z47 = l[j] := by
  rw [List.getD_eq_getElem?_getD, List.getElem?_eq_getElem h]; rfl
theorem good_not_bad {l : List S47} (h : Good l) {j : Nat} (hj : j < l.length) : ¬ badO l j := by
  obtain ⟨⟨c, hc, c0, c1⟩, hs⟩ := h.2.1 l[j] (List.getElem_mem hj)
  unfold badO
  rw [getD_at hj]
  rintro (h1 | h1 | h1 | h1)
  · rw [hc] at h1; exact c0 ((u8ne (m := 0) (by omega)).1 h1)
  · rw [hc] at h1; exact c1 ((u8ne (m := 255) (by omega)).1 h1)
  · omega
  · rcases idx_cases l[j].f0 l with ⟨_, e⟩ | ⟨a, a1, a2, _, a4⟩
    · exact e _ (List.getElem_mem hj) rfl
    · rw [a2] at h1
      have haj : a < j := by omega
      rw [getD_at a1] at a4
      exact List.pairwise_iff_getElem.1 h.2.2 a j a1 hj haj a4
theorem bad_good {l : List S47} (hl : l.length ≤ 128) (hw : ∀ o ∈ l, 0 ≤ o.f0 ∧ o.f0 < 256) (hb : ∀ j, j < l.length → ¬ badO l j) : Good l := by
  refine ⟨hl, fun o ho => ?_, List.pairwise_iff_getElem.2 fun i j hi hj hij he => ?_⟩
  · obtain ⟨j, hj, rfl⟩ := List.mem_iff_getElem.1 ho
    have h := hb j hj
    unfold badO at h
    rw [getD_at hj] at h
    have hr := hw l[j] ho
    refine ⟨⟨UInt8.ofNat l[j].f0.toNat, ?_, ?_, ?_⟩, ?_⟩
    · rw [UInt8.toNat_ofNat']; omega
    · intro h0
      have := congrArg UInt8.toNat h0
      rw [UInt8.toNat_ofNat'] at this
      refine h (Or.inl ?_)
      have h1 : (0 : UInt8).toNat = 0 := rfl
      omega
    · intro h0
      have := congrArg UInt8.toNat h0
      rw [UInt8.toNat_ofNat'] at this
      refine h (Or.inr (Or.inl ?_))
      have h1 : (255 : UInt8).toNat = 255 := rfl
      omega
    · rcases Nat.lt_or_ge 4096 l[j].f1.size with h1 | h1
      · exact absurd (Or.inr (Or.inr (Or.inl h1))) h
      · exact h1
  · refine hb j hj (Or.inr (Or.inr (Or.inr ?_)))
    rw [getD_at hj]
    rcases idx_cases l[j].f0 l with ⟨_, e⟩ | ⟨a, a1, a2, a3, a4⟩
    · exact absurd rfl (e _ (List.getElem_mem hj))
    · rw [a2]
      rcases Nat.lt_or_ge i a with h | h
      · exact absurd (by rw [getD_at hi]; exact he) (a3 i h)
      · omega
theorem good_add {l : List S47} (h : Good l) (c : UInt8) (d : ByteArray) (h0 : c ≠ 0) (h1 : c ≠ 255) (hd : d.size ≤ 4096) (he : (addS l c.toNat d).2 = 0) : Good (addS l c.toNat d).1 := by
  have hf := fit_add (good_fit h) (c.toNat : Int) d hd
  revert he hf
  unfold addS
  rcases idx_cases (c.toNat : Int) l with ⟨e1, e2⟩ | ⟨j, j1, e1, e2, e3⟩
  · rw [if_pos (by omega)]
    by_cases h128 : 128 ≤ l.length
    · rw [if_pos h128]; intro he; simp at he
    · rw [if_neg h128]
      intro _ hf
      refine ⟨hf.1, fun o ho => ?_, List.pairwise_append.2 ⟨h.2.2, List.pairwise_singleton _ _, fun a ha b hb => ?_⟩⟩
      · rcases List.mem_append.1 ho with ho | ho
        · exact h.2.1 o ho
        · obtain rfl := List.mem_singleton.1 ho; exact ⟨⟨c, rfl, h0, h1⟩, hd⟩
      · obtain rfl := List.mem_singleton.1 hb; exact e2 a ha
  · rw [if_neg (by omega), e1, Int.toNat_natCast]
    by_cases hbig : 4096 < (l.getD j z47).f1.size + d.size
    · rw [if_pos hbig]; intro he; simp at he
    · rw [if_neg hbig]
      intro _ hf
      refine ⟨hf.1, fun o ho => ⟨?_, hf.2 o ho⟩, List.pairwise_iff_getElem.2 fun a b ha hb hab => ?_⟩
      · rcases List.mem_or_eq_of_mem_set ho with ho | rfl
        · exact (h.2.1 o ho).1
        · rw [getD_at j1]; exact (h.2.1 _ (List.getElem_mem j1)).1
      · rw [List.length_set] at ha hb
        have hk : ∀ (q : Nat) (hq : q < (l.set j ⟨(l.getD j z47).f0, (l.getD j z47).f1 ++ d⟩).length), ((l.set j ⟨(l.getD j z47).f0, (l.getD j z47).f1 ++ d⟩)[q]).f0 = (l[q]'(by rw [List.length_set] at hq; exact hq)).f0 := fun q hq => by
          rw [List.getElem_set]
          split
          · rename_i h; subst h; have hgj := congrArg (fun o : S47 => o.f0) (getD_at j1); exact hgj
          · rfl
        rw [hk, hk]
        exact List.pairwise_iff_getElem.1 h.2.2 a b ha hb hab
theorem good_area : ∀ (n : Nat) (l : List S47) (bs : List UInt8), Good l → Good (areaL n l bs).1 := by
  intro n
  induction n with
  | zero => intro l bs h; exact h
  | succ n ih =>
    intro l bs h
    rcases bs with _ | ⟨c, _ | ⟨m, q⟩⟩
    · rw [areaL_nil]; exact h
    · rw [areaL_one]
      split
      · exact h
      · split
        · exact ih _ _ h
        · exact good_nil
    · rw [areaL_two]
      split
      · exact h
      · rename_i h255
        split
        · exact ih _ _ h
        · rename_i h0
          split
          · exact good_nil
          · split
            · rename_i he
              exact ih _ _ (good_add h c _ h0 h255 (by have := m.toNat_lt; rw [size_B, List.length_take]; omega) he)
            · exact good_nil
theorem good_parse : ∀ (ar : List ByteArray) (l : List S47), Good l → Good (parseL l ar).1
  | [], l, h => h
  | s :: r, l, h => by
    unfold parseL
    split
    · exact good_parse r _ (good_area _ _ _ h)
    · exact good_nil
def outN (l : List S47) : List Int := l.flatMap fun o => pieceL 17 o.f0 (L o.f1)
def outB (l : List S47) : List UInt8 := l.flatMap fun o => pieceB 17 (UInt8.ofNat o.f0.toNat) (L o.f1)
theorem emitS_good {l : List S47} (h : Good l) : ∀ (n j : Nat) (acc : List Int), l.length - j = n → j ≤ l.length → emitS l n j acc = (strOfNums (acc ++ outN (l.drop j) ++ [255]), 0) := by
  intro n
  induction n with
  | zero => intro j acc hn hj; rw [List.drop_eq_nil_of_le (by omega)]; simp [emitS, outN]
  | succ n ih =>
    intro j acc hn hj
    have hjl : j < l.length := by omega
    rw [emitS, if_neg (good_not_bad h hjl), ih (j + 1) _ (by omega) (by omega), List.drop_eq_getElem_cons hjl, getD_at hjl]
    simp only [outN, List.flatMap_cons, List.append_assoc]
theorem emitS_zero {l : List S47} : ∀ (n j : Nat) (acc : List Int), l.length - j = n → (emitS l n j acc).2 = 0 → ∀ q, j ≤ q → q < l.length → ¬ badO l q := by
  intro n
  induction n with
  | zero => intro j acc hn _ q h1 h2; omega
  | succ n ih =>
    intro j acc hn he q h1 h2
    rw [emitS] at he
    by_cases hb : badO l j
    · rw [if_pos hb] at he; simp at he
    · rw [if_neg hb] at he
      rcases Nat.eq_or_lt_of_le h1 with rfl | h3
      · exact hb
      · exact ih (j + 1) _ (by omega) he q h3 h2
theorem code_of {o : S47} {c : UInt8} (h : o.f0 = (c.toNat : Int)) : UInt8.ofNat o.f0.toNat = c := by
  rw [h, Int.toNat_natCast]; exact UInt8.ofNat_toNat
theorem outN_B : ∀ (l : List S47), (∀ o ∈ l, (∃ c : UInt8, o.f0 = (c.toNat : Int) ∧ c ≠ 0 ∧ c ≠ 255) ∧ o.f1.size ≤ 4096) → (outN l).map b8 = outB l ∧ (∀ x ∈ outN l, 0 ≤ x ∧ x < 256) ∧ (outN l).length ≤ 5000 * l.length
  | [], _ => by simp [outN, outB]
  | o :: l, h => by
    obtain ⟨i1, i2, i3⟩ := outN_B l (fun x hx => h x (List.mem_cons_of_mem _ hx))
    obtain ⟨⟨c, hc, _, _⟩, hs⟩ := h o List.mem_cons_self
    obtain ⟨p1, p2⟩ := piece_b8 17 c (L o.f1) (by rw [← size_L]; omega)
    have hpl := piece_len 17 o.f0 (L o.f1)
    rw [← size_L] at hpl
    have e1 : outN (o :: l) = pieceL 17 o.f0 (L o.f1) ++ outN l := by simp [outN]
    have e2 : outB (o :: l) = pieceB 17 c (L o.f1) ++ outB l := by simp [outB, code_of hc]
    rw [e1, e2]
    refine ⟨by rw [List.map_append, i1, hc, p1], fun x hx => ?_, by rw [List.length_append, List.length_cons]; omega⟩
    rcases List.mem_append.1 hx with hx | hx
    · rw [hc] at hx; exact p2 x hx
    · exact i2 x hx
theorem out_bytes {l : List S47} (h : Good l) : strOfNums (outN l ++ [255]) = B (outB l ++ [255]) ∧ (outB l).length ≤ 640000 := by
  obtain ⟨i1, i2, i3⟩ := outN_B l h.2.1
  refine ⟨?_, ?_⟩
  · rw [strOfNums_B _ (fun x hx => ?_), List.map_append, i1]
    · rfl
    · rcases List.mem_append.1 hx with hx | hx
      · exact i2 x hx
      · obtain rfl := List.mem_singleton.1 hx; omega
  · rw [← i1, List.length_map]; have := h.1; omega
theorem read_back (be : List UInt8) : ∀ (l pre : List S47), Good (pre ++ l) → areaA pre (outB l ++ 255 :: be) = (pre ++ l, 0)
  | [], pre, h => by rw [List.append_nil]; exact areaA_end pre be
  | o :: l, pre, h => by
    obtain ⟨⟨c, hc, c0, c1⟩, hs⟩ := h.2.1 o (by simp)
    have hp : ∀ x ∈ pre, x.f0 ≠ (c.toNat : Int) := fun x hx => by
      rw [← hc]; exact (List.pairwise_append.1 h.2.2).2.2 x hx o (by simp)
    have e2 : outB (o :: l) = pieceB 17 c (L o.f1) ++ outB l := by simp [outB, code_of hc]
    have ho : (⟨(c.toNat : Int), B (L o.f1)⟩ : S47) = o := by rw [B_L, ← hc]
    have hl : pre.length < 128 := by have := h.1; rw [List.length_append, List.length_cons] at this; omega
    rw [e2, List.append_assoc, area_first 17 pre c (L o.f1) (outB l ++ 255 :: be) c0 c1 hp hl (by rw [← size_L]; exact hs) (by rw [← size_L]; omega), ho, read_back be l (pre ++ [o]) (by simpa using h)]
    simp
end Go.Proofs.Ytdhmlenmnobmfaa.Opt
