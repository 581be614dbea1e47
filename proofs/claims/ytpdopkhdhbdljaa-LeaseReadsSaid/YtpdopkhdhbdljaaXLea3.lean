/- Changes as bytes: written, read: plain lemmas; conditions: numbers are of their kind, a string is within the form's reach. -/
import Derived.Test.YtpdopkhdhbdljaaXLea2
import Derived.Test.YtpdopkhdhbdljaaXOct
set_option linter.unusedVariables false
set_option linter.unusedSimpArgs false
namespace Go.Proofs.Ytpdopkhdhbdljaa.Lea
open Go.RowKit Go.Proofs.YtpdopkhdhbdljaaW.PrintWords Go.Proofs.YtpdopkhdhbdljaaW.PrintLast Go.Proofs.YtpdopkhdhbdljaaW.PrintMore Go.Proofs.Ytpdopkhdhbdljaa.X Go.Proofs.Ytpdopkhdhbdljaa.Oct Go.Proofs.Ytpdopkhdhbdljaa.Adr

/-- A change's numbers are of their kind. -/
structure Fit (c : S31) : Prop where
  hi : 0 ≤ c.f1.f1.f0.f0 ∧ c.f1.f1.f0.f0 < 18446744073709551616
  lo : 0 ≤ c.f1.f1.f0.f1 ∧ c.f1.f1.f0.f1 < 18446744073709551616
  id : 0 ≤ c.f1.f4 ∧ c.f1.f4 < 4294967296
theorem fit_wf {c : S31} (h : wf31 c) : Fit c := ⟨wf_u64 h.2.2.1.1.1, wf_u64 h.2.2.1.1.2, wf_u32 h.2.2.2.2.2.1⟩
/-- A change's bytes. -/
def encC (c : S31) : List UInt8 :=
  [b8 (if c.f0 = true then 2 else 1), b8 c.f1.f0, b8 c.f1.f1.f1] ++ (be8 c.f1.f1.f0.f0 ++ be8 c.f1.f1.f0.f1) ++ (if c.f0 = true then [] else [b8 c.f1.f2] ++ (be4 c.f1.f4 ++ (be8 (c.f1.f5 % 18446744073709551616) ++ runL (L c.f1.f3))))
theorem encC_len (c : S31) : (encC c).length ≤ 65600 := by
  unfold encC
  have h : (runL (L c.f1.f3)).length ≤ 65540 := by
    unfold runL runOk
    split
    · rename_i h
      simp only [decide_eq_true_eq] at h
      rw [List.length_append, be2_length]; omega
    · simp
  split <;> simp [be8_length, be4_length] <;> omega
theorem str3 (t a b : Int) (ht : 0 ≤ t ∧ t < 256) : strOfNums [t, a % 256, b % 256] = B [b8 t, b8 a, b8 b] := by
  rw [strOfNums_B _ (by intro x hx; simp at hx; rcases hx with rfl | rfl | rfl <;> omega)]
  simp [b8_mod]
theorem str1 (a : Int) : strOfNums [a % 256] = B [b8 a] := by
  rw [strOfNums_B _ (by intro x hx; simp at hx; subst hx; omega)]
  simp [b8_mod]
theorem runL_len (l : List UInt8) : (runL l).length ≤ 65540 := by
  unfold runL runOk
  split
  · rename_i h
    simp only [decide_eq_true_eq] at h
    rw [List.length_append, be2_length]; omega
  · simp
theorem bytes_eq {k : Nat} (hk : 12 ≤ k) (c : S31) (h : Fit c) : lease_bytes.f k c.f0 c.f1.f0 c.f1.f1.f0.f0 c.f1.f1.f0.f1 c.f1.f1.f1 c.f1.f2 c.f1.f3 c.f1.f4 c.f1.f5 = some (B (encC c)) := by
  obtain ⟨g, kd, ⟨⟨hi, lo⟩, bits⟩, st, cl, id, un⟩ := c
  obtain ⟨h1, h2, h3⟩ := h
  dsimp only at h1 h2 h3 ⊢
  obtain ⟨j, rfl⟩ : ∃ j, k = j + 1 := ⟨k - 1, by omega⟩
  unfold lease_bytes.f encC
  cases g with
  | true =>
    rw [if_pos rfl, lease_bytes.j0, Option.bind_some, str3 _ _ _ (by omega), putAddr (by omega) _ _ h1 h2, Option.bind_some, if_pos (by simp [size_B, be8_length]), if_pos rfl, B_append]
    simp
  | false =>
    have hr := runL_len (L cl)
    rw [if_neg (by decide), lease_bytes.j0, Option.bind_some, str3 _ _ _ (by omega), putAddr (by omega) _ _ h1 h2, Option.bind_some, if_pos (by simp [size_B, be8_length]), if_neg (by decide), run (by omega), Option.bind_some, Option.bind_some, str1, if_pos (by simp [size_B, be8_length, ByteArray.size_append]), Put32 (by omega) _ h3.1 h3.2, Option.bind_some, if_pos (by simp [size_B, be8_length, be4_length, ByteArray.size_append]), Oct.u64_wrap, Put64 (by omega) _ (by omega) (by omega), Option.bind_some, if_pos (by simp [size_B, be8_length, be4_length, ByteArray.size_append]), if_pos (by simp [size_B, be8_length, be4_length, ByteArray.size_append]; omega), B_append, B_append, B_append, B_append, B_append]
    simp
/-- A lease, a change. -/
def soundP (c : S31) : Prop :=
  right c.f1.f0 c.f1.f1.f0.f0.toNat c.f1.f1.f0.f1.toNat c.f1.f1.f1 ∧ 0 ≤ c.f1.f5 ∧ c.f1.f5 ≤ 1099511627776 ∧
    ((c.f1.f2 = 1 ∧ L c.f1.f3 ≠ [] ∧ (L c.f1.f3).length ≤ 130 ∧ (c.f1.f0 = 1 → c.f1.f4 = 0)) ∨ (c.f1.f2 = 2 ∧ c.f1.f0 ≠ 4 ∧ L c.f1.f3 = [] ∧ c.f1.f4 = 0))
def chgP (c : S31) : Prop :=
  (c.f0 = true ∧ right c.f1.f0 c.f1.f1.f0.f0.toNat c.f1.f1.f0.f1.toNat c.f1.f1.f1 ∧ c.f1.f2 = 0 ∧ L c.f1.f3 = [] ∧ c.f1.f4 = 0 ∧ c.f1.f5 = 0) ∨ (c.f0 = false ∧ soundP c)
instance (c : S31) : Decidable (soundP c) := by unfold soundP; infer_instance
instance (c : S31) : Decidable (chgP c) := by unfold chgP; infer_instance
theorem right_eq' {k : Nat} (hk : 2 ≤ k) (c h l n : Int) (hh : 0 ≤ h ∧ h < 18446744073709551616) (hl : 0 ≤ l ∧ l < 18446744073709551616) : lease_Right.f k c h l n = some (decide (right c h.toNat l.toNat n)) := by
  have := right_eq hk c h.toNat l.toNat (by omega) (by omega) n
  rwa [Int.toNat_of_nonneg hh.1, Int.toNat_of_nonneg hl.1] at this
theorem sound_eq2 {k : Nat} (hk : 4 ≤ k) (c : S31) (h : Fit c) : lease_Sound.f k c.f1.f0 c.f1.f1.f0.f0 c.f1.f1.f0.f1 c.f1.f1.f1 c.f1.f2 c.f1.f3 c.f1.f4 c.f1.f5 = some (decide (soundP c)) := by
  obtain ⟨j, rfl⟩ : ∃ j, k = j + 1 := ⟨k - 1, by omega⟩
  unfold lease_Sound.f
  have e1 := right_eq' (show 2 ≤ j + 1 by omega) c.f1.f0 c.f1.f1.f0.f0 c.f1.f1.f0.f1 c.f1.f1.f1 h.hi h.lo
  rw [e1, Option.bind_some]
  by_cases r : right c.f1.f0 c.f1.f1.f0.f0.toNat c.f1.f1.f0.f1.toNat c.f1.f1.f1
  · rw [decide_eq_true r, if_pos rfl]
    have key : ∀ b : Bool, (b = true ↔ (c.f1.f5 < 0 ∨ c.f1.f5 > 1099511627776)) → lease_Sound.j0 (j + 1) b c.f1.f0 c.f1.f1.f0.f0 c.f1.f1.f0.f1 c.f1.f1.f1 c.f1.f2 c.f1.f3 c.f1.f4 c.f1.f5 = some (decide (soundP c)) := by
      intro b hb
      rw [lease_Sound.j0]
      by_cases q : b = true
      · rw [if_pos q, decide_eq_false]
        have := hb.1 q
        rintro ⟨_, h1, h2, _⟩
        omega
      · have hr : ¬ (c.f1.f5 < 0 ∨ c.f1.f5 > 1099511627776) := fun z => q (hb.2 z)
        rw [if_neg q, toList_L]
        have hsz : (c.f1.f3.size : Int) = (L c.f1.f3).length := by rw [size_L]
        by_cases s1 : c.f1.f2 = 1
        · rw [if_pos s1]
          by_cases e : L c.f1.f3 = []
          · rw [if_pos e, decide_eq_false]
            rintro ⟨_, _, _, ⟨_, z, _⟩ | ⟨z, _⟩⟩
            · exact z e
            · omega
          · rw [if_neg e]
            by_cases e2 : (c.f1.f3.size : Int) ≤ 130
            · rw [if_pos e2]
              by_cases k1 : c.f1.f0 = 1
              · rw [if_pos k1]
                congr 1
                rw [Bool.eq_iff_iff, beq_iff_eq, decide_eq_true_eq]
                exact ⟨fun z => ⟨r, by omega, by omega, .inl ⟨s1, e, by omega, fun _ => z⟩⟩, fun z => z.2.2.2.elim (fun z => z.2.2.2 k1) (fun z => z.2.2.2)⟩
              · rw [if_neg k1, decide_eq_true (show soundP c from ⟨r, by omega, by omega, .inl ⟨s1, e, by omega, fun z => absurd z k1⟩⟩)]
            · rw [if_neg e2, decide_eq_false]
              rintro ⟨_, _, _, ⟨_, _, z, _⟩ | ⟨z, _⟩⟩ <;> omega
        · rw [if_neg s1]
          by_cases s2 : c.f1.f2 = 2
          · rw [if_pos s2]
            by_cases k4 : c.f1.f0 = 4
            · rw [if_pos k4, decide_eq_false]
              rintro ⟨_, _, _, ⟨z, _⟩ | ⟨_, z, _⟩⟩
              · exact s1 z
              · exact z k4
            · rw [if_neg k4]
              by_cases e : L c.f1.f3 = []
              · rw [if_pos e]
                congr 1
                rw [Bool.eq_iff_iff, beq_iff_eq, decide_eq_true_eq]
                exact ⟨fun z => ⟨r, by omega, by omega, .inr ⟨s2, k4, e, z⟩⟩, fun z => z.2.2.2.elim (fun z => absurd z.1 s1) (fun z => z.2.2.2)⟩
              · rw [if_neg e, decide_eq_false]
                rintro ⟨_, _, _, ⟨z, _⟩ | ⟨_, _, z, _⟩⟩
                · exact s1 z
                · exact e z
          · rw [if_neg s2, decide_eq_false]
            rintro ⟨_, _, _, ⟨z, _⟩ | ⟨z, _⟩⟩
            · exact s1 z
            · exact s2 z
    by_cases u : c.f1.f5 < 0
    · rw [if_pos u]; exact key true ⟨fun _ => .inl u, fun _ => rfl⟩
    · rw [if_neg u]; exact key _ (by rw [decide_eq_true_eq]; omega)
  · rw [decide_eq_false r, if_neg (by decide), lease_Sound.j0, if_pos rfl, decide_eq_false (fun z => r z.1)]
theorem change_eq {k : Nat} (hk : 4 ≤ k) (c : S31) (h : Fit c) : lease_Change.f k c.f0 c.f1.f0 c.f1.f1.f0.f0 c.f1.f1.f0.f1 c.f1.f1.f1 c.f1.f2 c.f1.f3 c.f1.f4 c.f1.f5 = some (decide (chgP c)) := by
  unfold lease_Change.f
  by_cases g : c.f0 = true
  · rw [if_pos g, right_eq' (by omega) _ _ _ _ h.hi h.lo, Option.bind_some]
    by_cases r : right c.f1.f0 c.f1.f1.f0.f0.toNat c.f1.f1.f0.f1.toNat c.f1.f1.f1
    · rw [decide_eq_true r, if_pos rfl, toList_L]
      congr 1
      rw [Bool.eq_iff_iff]
      simp only [Bool.and_eq_true, beq_iff_eq, decide_eq_true_eq]
      exact ⟨fun z => .inl ⟨g, r, z⟩, fun z => z.elim (fun z => z.2.2) (fun z => by rw [g] at z; cases z.1)⟩
    · rw [decide_eq_false r, if_neg (by decide), decide_eq_false]
      rintro (z | z)
      · exact r z.2.1
      · exact r z.2.1
  · rw [if_neg g, sound_eq2 (by omega) c h, Option.bind_some]
    congr 1
    rw [decide_eq_decide]
    exact ⟨fun z => .inr ⟨Bool.eq_false_iff.2 g, z⟩, fun z => z.elim (fun z => absurd z.1 g) (·.2)⟩
/-- What is written. -/
def flat (l : List S31) : List UInt8 := l.flatMap encC
theorem encode_go : ∀ (l : List S31) (acc : ByteArray), (∀ c ∈ l, Fit c) → acc.size + l.length * 65600 ≤ 140737488355328 →
    lease_Encode.l l acc = some (if ∀ c ∈ l, chgP c then (acc ++ B (flat l), 0) else ((⟨#[]⟩ : ByteArray), 80))
  | [], acc, _, _ => by
    rw [lease_Encode.l, if_pos (by simp)]
    refine congrArg some (Prod.ext ?_ rfl)
    apply ext_L
    rw [L_append]; simp [flat, L_B]
  | c :: l, acc, hf, hs => by
    have hc := hf c (by simp)
    have hl := encC_len c
    simp only [List.length_cons] at hs
    rw [lease_Encode.l, change_eq (by omega) c hc, Option.bind_some]
    by_cases p : chgP c
    · rw [decide_eq_true p, if_pos rfl, bytes_eq (by omega) c hc, Option.bind_some, if_pos (by rw [size_B]; omega), encode_go l _ (fun x hx => hf x (by simp [hx])) (by rw [ByteArray.size_append, size_B]; omega)]
      congr 1
      by_cases q : ∀ x ∈ l, chgP x
      · rw [if_pos q, if_pos (by intro x hx; rcases List.mem_cons.1 hx with rfl | hx; exact p; exact q x hx)]
        refine Prod.ext ?_ rfl
        apply ext_L
        simp [L_append, L_B, flat]
      · rw [if_neg q, if_neg (fun z => q (fun x hx => z x (by simp [hx])))]
    · rw [decide_eq_false p, if_neg (by decide), if_neg (fun z => p (z c (by simp)))]
theorem encode_eq (l : List S31) (hf : ∀ c ∈ l, Fit c) : lease_Encode.f l = some (if l.length > 2048 then ((⟨#[]⟩ : ByteArray), 6) else if ∀ c ∈ l, chgP c then (B (be2 l.length ++ flat l), 0) else ((⟨#[]⟩ : ByteArray), 80)) := by
  unfold lease_Encode.f
  by_cases h : l.length > 2048
  · rw [if_pos (by omega), if_pos h]
  · rw [if_neg (by omega), if_neg h, u16_wrap, Int.emod_eq_of_lt (by omega) (by omega), Put16 (by omega) _ (by omega) (by omega), Option.bind_some, if_pos (by rw [size_B, be2_length]; omega), encode_go l _ hf (by rw [size_B, be2_length]; omega), B_append]
end Go.Proofs.Ytpdopkhdhbdljaa.Lea
