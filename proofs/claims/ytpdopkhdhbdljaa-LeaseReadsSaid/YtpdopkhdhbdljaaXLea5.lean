/- Changes read from a run of bytes: plain lemmas; conditions: a string is within the form's reach. -/
import Derived.Test.YtpdopkhdhbdljaaXLea4
set_option linter.unusedVariables false
set_option linter.unusedSimpArgs false
namespace Go.Proofs.Ytpdopkhdhbdljaa.Lea
open Go.RowKit Go.Proofs.YtpdopkhdhbdljaaW.PrintWords Go.Proofs.YtpdopkhdhbdljaaW.PrintLast Go.Proofs.YtpdopkhdhbdljaaW.PrintMore Go.Proofs.Ytpdopkhdhbdljaa.X Go.Proofs.Ytpdopkhdhbdljaa.Oct Go.Proofs.Ytpdopkhdhbdljaa.Adr

/-- What a run of changes reads as. -/
def dL (l : List UInt8) : Nat → Int → List S31 → List S31 × Int
  | 0, a, acc => if a < l.length then ([], 5) else if ∀ c ∈ acc, chgP c then (acc, 0) else ([], 80)
  | d + 1, a, acc => if rE l a = 0 then dL l d (rT l a) (acc ++ [rC l a]) else ([], rE l a)
def decS (l : List UInt8) : List S31 × Int :=
  if cutB l 0 2 = true then (if getN l 0 2 > 2048 then ([], 6) else dL l (getN l 0 2).toNat 2 []) else ([], 3)
theorem getN_8 (l : List UInt8) (a : Int) : 0 ≤ getN l a 8 ∧ getN l a 8 < 18446744073709551616 := by
  have h : 0 ≤ getN l a 8 ∧ getN l a 8 < 256 ^ 8 := getN_range l a 8
  have : getN l a 8 < 18446744073709551616 := by simpa using h.2
  omega
theorem getN_4 (l : List UInt8) (a : Int) : 0 ≤ getN l a 4 ∧ getN l a 4 < 4294967296 := by
  have h : 0 ≤ getN l a 4 ∧ getN l a 4 < 256 ^ 4 := getN_range l a 4
  have : getN l a 4 < 4294967296 := by simpa using h.2
  omega
theorem rA_fit (l : List UInt8) (a : Int) : (0 ≤ (rA l a).1 ∧ (rA l a).1 < 18446744073709551616) ∧ (0 ≤ (rA l a).2.1 ∧ (rA l a).2.1 < 18446744073709551616) := by
  unfold rA
  split
  · exact ⟨getN_8 _ _, getN_8 _ _⟩
  · refine ⟨⟨?_, ?_⟩, ?_, ?_⟩ <;> decide
theorem rC_fit (l : List UInt8) (a : Int) : Fit (rC l a) := by
  have h := rA_fit l a
  unfold rC
  split
  · exact ⟨h.1, h.2, show (0 : Int) ≤ 0 by decide, show (0 : Int) < 4294967296 by decide⟩
  · exact ⟨h.1, h.2, getN_4 _ _⟩
theorem bad_i : ∀ (l : List S31) (i : Nat), (∀ c ∈ l, Fit c) → ∃ r, leasebad.i l i = some r ∧ (0 ≤ r ↔ ¬ ∀ c ∈ l, chgP c)
  | [], i, _ => ⟨-1, rfl, by simp⟩
  | c :: l, i, hf => by
    rw [leasebad.i, change_eq (by omega) c (hf c (by simp)), Option.bind_some]
    by_cases p : chgP c
    · rw [decide_eq_true p, if_pos rfl]
      obtain ⟨r, h1, h2⟩ := bad_i l (i + 1) (fun x hx => hf x (by simp [hx]))
      refine ⟨r, h1, h2.trans (not_congr ⟨fun h x hx => ?_, fun h x hx => h x (by simp [hx])⟩)⟩
      rcases List.mem_cons.1 hx with rfl | hx
      · exact p
      · exact h x hx
    · rw [decide_eq_false p, if_neg (by decide)]
      exact ⟨_, rfl, fun _ z => p (z c (by simp)), fun _ => by omega⟩
theorem bad_eq (l : List S31) (hf : ∀ c ∈ l, Fit c) : leasebad.f l = some (decide (¬ ∀ c ∈ l, chgP c)) := by
  obtain ⟨r, h1, h2⟩ := bad_i l 0 hf
  unfold leasebad.f
  rw [h1, Option.bind_some]
  congr 1
  rw [decide_eq_decide]; exact h2
theorem decode_loop (s : ByteArray) (hs : s.size ≤ 1125899906842624) (n : Nat) (hn : n ≤ 2048) : ∀ (d k i : Nat) (a : Int) (acc : List S31), i + d = n → d < k → acc.length ≤ i → (0 ≤ a ∧ a ≤ 1125899906842624) → (∀ c ∈ acc, Fit c) →
    lease_Decode.l0 k s acc (n : Int) (i : Int) s a 0 = some (dL (L s) d a acc)
  | 0, k, i, a, acc, hi, hk, hl, ha, hf => by
    obtain ⟨j, rfl⟩ : ∃ j, k = j + 1 := ⟨k - 1, by omega⟩
    rw [lease_Decode.l0, if_neg (by omega), dL, bad_eq acc hf, Option.bind_some, size_L]
    by_cases h : a < ((L s).length : Int)
    · rw [if_pos h, if_pos h]
    · rw [if_neg h, if_neg h]
      by_cases h2 : ∀ c ∈ acc, chgP c
      · rw [decide_eq_false (not_not_intro h2), if_neg (by decide), if_pos h2]
      · rw [decide_eq_true h2, if_pos rfl, if_neg h2]
  | d + 1, k, i, a, acc, hi, hk, hl, ha, hf => by
    obtain ⟨j, rfl⟩ : ∃ j, k = j + 1 := ⟨k - 1, by omega⟩
    rw [lease_Decode.l0, if_pos (by omega), change_read s a hs ha, Option.bind_some, if_pos (by omega), dL]
    dsimp only
    by_cases h : rE (L s) a = 0
    · have hr := (read_written ha.1 (full_of h)).2
      rw [size_L] at hs
      rw [if_pos h, if_pos h, h, u16_wrap, show ((i : Int) + 1) % 65536 = ((i + 1 : Nat) : Int) by omega]
      refine decode_loop s (by rw [size_L]; exact hs) n hn d j (i + 1) _ _ (by omega) (by omega) (by simp; omega) (by omega) ?_
      intro c hc
      rcases List.mem_append.1 hc with hc | hc
      · exact hf c hc
      · rw [List.mem_singleton.1 hc]; exact rC_fit _ _
    · rw [if_neg h, if_neg h]
theorem getN_2 (l : List UInt8) (a : Int) : 0 ≤ getN l a 2 ∧ getN l a 2 < 65536 := by
  have h : 0 ≤ getN l a 2 ∧ getN l a 2 < 256 ^ 2 := getN_range l a 2
  have : getN l a 2 < 65536 := by simpa using h.2
  omega
theorem decode_eq {k : Nat} (hk : 2100 ≤ k) (s : ByteArray) (hs : s.size ≤ 1125899906842624) : lease_Decode.f k s = some (decS (L s)) := by
  unfold lease_Decode.f decS
  rw [get16 (by omega) s 0 (by omega) (by omega), Option.bind_some]
  dsimp only
  have hg := getN_2 (L s) 0
  by_cases h : cutB (L s) 0 2 = true
  · rw [if_pos h, if_pos h]
    by_cases h2 : getN (L s) 0 2 > 2048
    · rw [if_pos h2, if_pos h2]
    · rw [if_neg h2, if_neg h2]
      have := decode_loop s hs (getN (L s) 0 2).toNat (by omega) (getN (L s) 0 2).toNat k 0 2 [] (by omega) (by omega) (by simp) (by omega) (by simp)
      rwa [Int.toNat_of_nonneg hg.1] at this
  · rw [if_neg h, if_neg h]
/-! what was read is what would have been written -/
theorem dL_ok (l : List UInt8) : ∀ (d : Nat) (a : Int) (acc r : List S31), 0 ≤ a → a ≤ l.length → (∀ c ∈ acc, Fit c) → dL l d a acc = (r, 0) →
    ∃ cs : List S31, r = acc ++ cs ∧ cs.length = d ∧ l.drop a.toNat = flat cs ∧ (∀ c ∈ r, chgP c) ∧ ∀ c ∈ r, Fit c
  | 0, a, acc, r, h0, h1, hf, h => by
    rw [dL] at h
    split at h
    · cases h
    · split at h
      · rename_i p
        cases h
        exact ⟨[], by simp, rfl, by simp [flat]; omega, p, hf⟩
      · cases h
  | d + 1, a, acc, r, h0, h1, hf, h => by
    rw [dL] at h
    split at h
    · rename_i e
      have hr := read_written h0 (full_of e)
      obtain ⟨cs, e1, e2, e3, e4, e5⟩ := dL_ok l d _ _ r (by omega) (by omega) (by
        intro c hc
        rcases List.mem_append.1 hc with hc | hc
        · exact hf c hc
        · rw [List.mem_singleton.1 hc]; exact rC_fit _ _) h
      refine ⟨rC l a :: cs, by rw [e1]; simp, by simp [e2], ?_, e4, e5⟩
      rw [hr.1, e3]; simp [flat]
    · rename_i e
      exact absurd (congrArg Prod.snd h) e
theorem decS_ok (l : List UInt8) (r : List S31) (h : decS l = (r, 0)) : l = be2 r.length ++ flat r ∧ r.length ≤ 2048 ∧ (∀ c ∈ r, chgP c) ∧ ∀ c ∈ r, Fit c := by
  unfold decS at h
  have hg := getN_2 l 0
  split at h
  · rename_i c
    have hb := cutB_bound c
    split at h
    · cases h
    · obtain ⟨cs, e1, e2, e3, e4, e5⟩ := dL_ok l _ 2 [] r (by omega) (by omega) (by simp) h
      rw [List.nil_append] at e1
      subst e1
      refine ⟨?_, by omega, e4, e5⟩
      have hd := cut_drop c
      have hl := cut_len c
      rw [show (0 : Int).toNat = 0 from rfl, List.drop_zero, show (0 + 2 : Int).toNat = (2 : Int).toNat from rfl, e3] at hd
      rw [e2, Int.toNat_of_nonneg hg.1, show be2 (getN l 0 2) = cutL l 0 2 from be2_of _ (by omega), ← hd]
  · cases h
/-! what was written is read -/
theorem dL_written (post : List UInt8) : ∀ (cs : List S31) (pre : List UInt8) (acc : List S31), (∀ c ∈ cs, Fit c) → (∀ c ∈ acc, chgP c) → (∀ c ∈ cs, chgP c) →
    dL (pre ++ flat cs ++ post) cs.length (pre.length : Int) acc = if post = [] then (acc ++ cs, 0) else ([], 5)
  | [], pre, acc, _, ha, _ => by
    rw [List.length_nil, dL]
    by_cases h : post = []
    · rw [if_pos h, if_neg (by subst h; simp [flat]), if_pos ha, List.append_nil]
    · have : 0 < post.length := by cases post with | nil => exact absurd rfl h | cons => simp
      rw [if_neg h, if_pos (by simp [flat]; omega)]
  | c :: cs, pre, acc, hf, ha, hc => by
    have e : pre ++ flat (c :: cs) ++ post = pre ++ encC c ++ (flat cs ++ post) := by simp [flat]
    have hw := written_read pre (flat cs ++ post) c (hf c (by simp)) (hc c (by simp))
    rw [List.length_cons, dL, e, if_pos (rE_full hw.1), hw.2.1, hw.2.2]
    have := dL_written post cs (pre ++ encC c) (acc ++ [c]) (fun x hx => hf x (by simp [hx])) (by
      intro x hx
      rcases List.mem_append.1 hx with hx | hx
      · exact ha x hx
      · rw [List.mem_singleton.1 hx]; exact hc c (by simp)) (fun x hx => hc x (by simp [hx]))
    rw [show pre ++ encC c ++ flat cs ++ post = pre ++ encC c ++ (flat cs ++ post) by simp, List.length_append] at this
    rw [this]
    simp
theorem decS_written (cs : List S31) (post : List UInt8) (hl : cs.length ≤ 2048) (hf : ∀ c ∈ cs, Fit c) (hc : ∀ c ∈ cs, chgP c) : decS (be2 cs.length ++ flat cs ++ post) = if post = [] then (cs, 0) else ([], 5) := by
  unfold decS
  have h1 := cutB_head (be2 cs.length) (flat cs ++ post) 2 rfl
  have h2 := getN_head (be2 cs.length) (flat cs ++ post) 2 rfl
  rw [← List.append_assoc] at h1 h2
  rw [num_be2 _ (by omega) (by omega)] at h2
  rw [if_pos h1, h2, if_neg (by omega), show ((cs.length : Int)).toNat = cs.length by omega]
  have := dL_written post cs (be2 cs.length) [] hf (by simp) hc
  rw [be2_length] at this
  rw [show ((2 : Nat) : Int) = 2 from rfl] at this
  rw [this, List.nil_append]
/-! cut short -/
theorem cutB_more {l : List UInt8} {a n : Int} (m : List UInt8) (h : cutB l a n = true) : cutB (l ++ m) a n = true ∧ cutL (l ++ m) a n = cutL l a n := by
  have hb := cutB_bound h
  have h2 : cutB (l ++ m) a n = true := by
    simp only [cutB, decide_eq_true_eq, List.length_append]; omega
  refine ⟨h2, ?_⟩
  unfold cutL
  rw [if_pos h, if_pos h2, List.drop_append_of_le_length (by omega), List.take_append_of_le_length (by rw [List.length_drop]; omega)]
theorem full_more {l : List UInt8} {a : Int} (m : List UInt8) (h : Full l a) : rT (l ++ m) a = rT l a := by
  have e0 : getN (l ++ m) a 1 = getN l a 1 := by unfold getN; rw [(cutB_more m h.c0).2]
  unfold rT
  rw [e0]
  by_cases h2 : getN l a 1 = 2
  · rw [if_pos h2, if_pos h2]
  · rw [if_neg h2, if_neg h2]
    have hk := (h.more h2).2.2.2
    have hk' := hk
    unfold takeOk at hk'
    simp only [Bool.and_eq_true] at hk'
    have e1 : getN (l ++ m) (a + 32) 2 = getN l (a + 32) 2 := by unfold getN; rw [(cutB_more m hk'.1).2]
    have e2 : takeOk (l ++ m) (a + 32) = true := by
      unfold takeOk
      rw [e1, (cutB_more m hk'.1).1, (cutB_more m hk'.2).1]; rfl
    unfold takeTo
    rw [if_pos hk, if_pos e2, e1]
theorem encC_head (c : S31) : encC c = b8 (if c.f0 = true then 2 else 1) :: (encC c).tail := rfl
theorem short_one (pre : List UInt8) (c : S31) (hf : Fit c) (hc : chgP c) (j : Nat) (hj : j < (encC c).length) : rE (pre ++ (encC c).take j) (pre.length : Int) = 3 := by
  apply rE_short
  · cases j with
    | zero => left; simp [cutB]; omega
    | succ j =>
      right
      rw [encC_head c, List.take_succ_cons]
      have := getN_mid pre [b8 (if c.f0 = true then 2 else 1)] ((encC c).tail.take j) 1 rfl
      rw [show pre ++ [b8 (if c.f0 = true then 2 else 1)] ++ (encC c).tail.take j = pre ++ b8 (if c.f0 = true then 2 else 1) :: (encC c).tail.take j by simp] at this
      rw [this, num1, b8_nat]
      split
      · right; decide
      · left; decide
  · intro hF
    have h1 := full_more ((encC c).drop j) hF
    have h2 := written_read pre [] c hf hc
    have h3 := (read_written (by omega) hF).2.2
    rw [List.append_assoc, List.take_append_drop] at h1
    rw [List.append_nil] at h2
    rw [← h1, h2.2.2, List.length_append, List.length_take] at h3
    omega
theorem dL_short : ∀ (cs : List S31) (pre : List UInt8) (acc : List S31) (j : Nat), (∀ c ∈ cs, Fit c) → (∀ c ∈ cs, chgP c) → j < (flat cs).length →
    dL (pre ++ (flat cs).take j) cs.length (pre.length : Int) acc = ([], 3)
  | [], _, _, j, _, _, hj => by simp [flat] at hj
  | c :: cs, pre, acc, j, hf, hc, hj => by
    have e : flat (c :: cs) = encC c ++ flat cs := by simp [flat]
    rw [e, List.length_append] at hj
    rw [List.length_cons, dL, e]
    by_cases h : j < (encC c).length
    · rw [List.take_append_of_le_length (by omega)]
      have := short_one pre c (hf c (by simp)) (hc c (by simp)) j h
      rw [this, if_neg (by decide)]
    · have e2 : (encC c ++ flat cs).take j = encC c ++ (flat cs).take (j - (encC c).length) := by
        rw [List.take_append, List.take_of_length_le (by omega)]
      have hw := written_read pre ((flat cs).take (j - (encC c).length)) c (hf c (by simp)) (hc c (by simp))
      rw [e2, ← List.append_assoc, if_pos (rE_full hw.1), hw.2.1, hw.2.2]
      have := dL_short cs (pre ++ encC c) (acc ++ [c]) (j - (encC c).length) (fun x hx => hf x (by simp [hx])) (fun x hx => hc x (by simp [hx])) (by omega)
      rwa [List.length_append] at this
theorem decS_short (cs : List S31) (hl : cs.length ≤ 2048) (hf : ∀ c ∈ cs, Fit c) (hc : ∀ c ∈ cs, chgP c) (j : Nat) (hj : j < (be2 cs.length ++ flat cs).length) : (decS ((be2 cs.length ++ flat cs).take j)).2 = 3 := by
  rw [List.length_append, be2_length] at hj
  unfold decS
  by_cases h : j < 2
  · rw [if_neg]
    simp [cutB]; omega
  · have e2 : (be2 cs.length ++ flat cs).take j = be2 cs.length ++ (flat cs).take (j - 2) := by
      rw [List.take_append, List.take_of_length_le (by rw [be2_length]; omega), be2_length]
    have h1 := cutB_head (be2 cs.length) ((flat cs).take (j - 2)) 2 rfl
    have h2 := getN_head (be2 cs.length) ((flat cs).take (j - 2)) 2 rfl
    rw [num_be2 _ (by omega) (by omega)] at h2
    rw [e2, if_pos h1, h2, if_neg (by omega), show ((cs.length : Int)).toNat = cs.length by omega]
    have := dL_short cs (be2 cs.length) [] (j - 2) hf hc (by omega)
    rw [be2_length] at this
    rw [show ((2 : Nat) : Int) = 2 from rfl] at this
    rw [this]
theorem flat_len : ∀ l : List S31, (flat l).length ≤ l.length * 65600
  | [] => by simp [flat]
  | c :: l => by
    have := flat_len l
    have := encC_len c
    simp only [flat, List.flatMap_cons, List.length_append, List.length_cons] at *
    omega
end Go.Proofs.Ytpdopkhdhbdljaa.Lea
