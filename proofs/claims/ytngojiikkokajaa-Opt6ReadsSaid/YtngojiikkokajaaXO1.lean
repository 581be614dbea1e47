/- Opt6: rows of options, read and written: plain lemmas; conditions: strings are within 2^62. -/
import Derived.Test.YtngojiikkokajaaG0
import Derived.Test.YtngojiikkokajaaG1
import Derived.Test.YtngojiikkokajaaG2
import Derived.Test.YtngojiikkokajaaG3
import Derived.Test.YtngojiikkokajaaG4
import Derived.Test.YtngojiikkokajaaG5
import Derived.Laws.BitsAllLaws
import Derived.Lib.Strings
import Derived.Test.YtngojiikkokajaaXOct
set_option linter.unusedVariables false
set_option linter.unusedSimpArgs false
namespace Go.Proofs.Ytngojiikkokajaa.O6
open Go Go.RowKit Go.Proofs.YtngojiikkokajaaW.PrintWords Go.Proofs.YtngojiikkokajaaW.PrintLast Go.Proofs.YtngojiikkokajaaW.PrintMore Go.Proofs.Ytngojiikkokajaa.X Go.Proofs.Ytngojiikkokajaa.Oct
abbrev NIL : ByteArray := ⟨#[]⟩
/-- Options read one behind the other. -/
def prs (l : List UInt8) : Nat → List S40 → Int → List S40 × Int
  | 0, acc, _ => (acc, 0)
  | d + 1, acc, i => if i < l.length then (if cutB l i 2 = true ∧ takeOk l (i + 2) = true then (if 128 ≤ acc.length then ([], 6) else prs l d (acc ++ [⟨getN l i 2, B (takeL l (i + 2))⟩]) (takeTo l (i + 2))) else ([], 3)) else (acc, 0)
theorem take_bound {l : List UInt8} {i : Int} (h : takeOk l (i + 2) = true) : i + 4 ≤ takeTo l (i + 2) ∧ takeTo l (i + 2) ≤ l.length := by
  have hr := getN_range l (i + 2) 2
  unfold takeTo
  rw [if_pos h]
  unfold takeOk at h
  rw [Bool.and_eq_true] at h
  have := cutB_bound h.2
  omega
theorem parse_go (s : ByteArray) (hs : s.size ≤ 4611686018427387904) (d : Nat) : ∀ (k : Nat) (acc : List S40) (i : Int), 0 ≤ i → i ≤ s.size → (s.size : Int) - i < d → 2 * (129 - acc.length) + 20 ≤ k → acc.length ≤ 128 →
    opt6_Parse.l0 k s acc i = some (prs (L s) d acc i) := by
  have hsz : ((L s).length : Int) = s.size := by rw [size_L]
  induction d with
  | zero => intro k acc i h0 h1 hd; omega
  | succ d ih =>
    intro k acc i h0 h1 hd hk hacc
    obtain ⟨k, rfl⟩ : ∃ m, k = m + 2 := ⟨k - 2, by omega⟩
    rw [opt6_Parse.l0, prs]
    by_cases hlt : i < (s.size : Int)
    · rw [if_pos hlt, if_pos (by rw [hsz]; exact hlt), get16 (by omega) s i hs (by omega), Option.bind_some, w64 (n := i + 2) (by omega), takeRun (by omega) s (i + 2) hs (by omega), Option.bind_some]
      dsimp only
      have hj : ∀ b, opt6_Parse.j1 (k + 1) s acc (getN (L s) i 2) (B (takeL (L s) (i + 2))) (takeTo (L s) (i + 2)) b = if b = true then some (([] : List S40), 3) else if 128 ≤ acc.length then some ([], 6) else opt6_Parse.l0 k s (acc ++ [⟨getN (L s) i 2, B (takeL (L s) (i + 2))⟩]) (takeTo (L s) (i + 2)) := by
        intro b
        rw [opt6_Parse.j1]
        by_cases hb : b = true
        · rw [if_pos hb, if_pos hb]
        · rw [if_neg hb, if_neg hb]
          by_cases h128 : 128 ≤ acc.length
          · rw [if_pos (by omega), if_pos h128]
          · rw [if_neg (by omega), if_neg h128, if_pos (by omega)]
      by_cases hc : cutB (L s) i 2 = true
      · rw [if_pos hc, hj]
        by_cases ht : takeOk (L s) (i + 2) = true
        · rw [if_neg (by rw [ht]; decide), if_pos (show cutB (L s) i 2 = true ∧ takeOk (L s) (i + 2) = true from ⟨hc, ht⟩)]
          have hb := take_bound ht
          by_cases h128 : 128 ≤ acc.length
          · rw [if_pos h128, if_pos h128]
          · rw [if_neg h128, if_neg h128]
            exact ih k _ _ (by omega) (by omega) (by omega) (by rw [List.length_append, List.length_singleton]; omega) (by rw [List.length_append, List.length_singleton]; omega)
        · rw [if_pos (by rw [Bool.eq_false_iff.2 ht]; rfl), if_neg (fun h => ht h.2)]
      · rw [if_neg hc, hj, if_pos rfl, if_neg (fun h => hc h.1)]
    · rw [if_neg hlt, if_neg (by rw [hsz]; exact hlt)]
/-- What stands in what was read: runs, and numbers of 16 bits. -/
def okO (x : S40) : Prop := x.f1.size ≤ 65535 ∧ 0 ≤ x.f0 ∧ x.f0 < 65536
theorem takeL_small (l : List UInt8) (i : Int) : (takeL l i).length ≤ 65535 := by
  have hr := getN_range l i 2
  have hr2 : getN l i 2 < 65536 := by simpa using hr.2
  unfold takeL
  split
  · rw [cutL_length]; split <;> omega
  · exact Nat.zero_le _
theorem prs_ok_ (l : List UInt8) (d : Nat) : ∀ (acc : List S40) (i : Int) (r : List S40 × Int), acc.length ≤ 128 → (∀ x ∈ acc, okO x) → prs l d acc i = r → (∀ x ∈ r.1, okO x) ∧ r.1.length ≤ 128 := by
  induction d with
  | zero => intro acc i r hl h e; rw [prs] at e; subst e; exact ⟨h, hl⟩
  | succ d ih =>
    intro acc i r hl h e
    rw [prs] at e
    by_cases h1 : i < (l.length : Int)
    · rw [if_pos h1] at e
      by_cases h2 : cutB l i 2 = true ∧ takeOk l (i + 2) = true
      · rw [if_pos h2] at e
        by_cases h3 : 128 ≤ acc.length
        · rw [if_pos h3] at e; subst e; exact ⟨fun x hx => (by cases hx), Nat.zero_le _⟩
        · rw [if_neg h3] at e
          refine ih _ _ r (by rw [List.length_append, List.length_singleton]; omega) (fun x hx => ?_) e
          rcases List.mem_append.1 hx with hx | hx
          · exact h x hx
          · obtain rfl := List.mem_singleton.1 hx
            have hr := getN_range l i 2
            exact ⟨takeL_small _ _, hr.1, by simpa using hr.2⟩
      · rw [if_neg h2] at e; subst e; exact ⟨fun x hx => (by cases hx), Nat.zero_le _⟩
    · rw [if_neg h1] at e; subst e; exact ⟨h, hl⟩
theorem prs_ok (l : List UInt8) (d : Nat) (acc : List S40) (i : Int) (hl : acc.length ≤ 128) (h : ∀ x ∈ acc, okO x) : (∀ x ∈ (prs l d acc i).1, okO x) ∧ (prs l d acc i).1.length ≤ 128 := prs_ok_ l d acc i _ hl h rfl
def emOk (zs : List S40) : Bool := zs.all fun x => runOk (L x.f1)
def emL : List S40 → List UInt8
  | [] => []
  | x :: zs => (be2 x.f0 ++ runL (L x.f1)) ++ emL zs
def okF (x : S40) : Prop := 0 ≤ x.f0 ∧ x.f0 < 65536
theorem runL_len (l : List UInt8) : (runL l).length ≤ 65537 := by
  unfold runL
  split
  · rename_i h
    simp only [runOk, decide_eq_true_eq] at h
    rw [List.length_append, be2_length]; omega
  · exact Nat.zero_le _
theorem emL_len : ∀ zs : List S40, (emL zs).length ≤ 65539 * zs.length
  | [] => Nat.le_refl _
  | x :: zs => by
    have := emL_len zs
    have := runL_len (L x.f1)
    rw [emL, List.length_append, List.length_append, be2_length, List.length_cons]
    omega
theorem emit_l : ∀ (zs : List S40) (acc : ByteArray), (∀ x ∈ zs, okF x) → acc.size + 65539 * zs.length ≤ 140737488355328 → opt6_Emit.l zs acc = some (if emOk zs = true then (acc ++ B (emL zs), 0) else (NIL, 130))
  | [], acc, _, _ => by
    rw [opt6_Emit.l]
    refine congrArg some (Prod.ext ?_ rfl)
    apply ext_L
    show L acc = L (acc ++ B [])
    rw [L_append, L_B, List.append_nil]
  | x :: zs, acc, hz, hl => by
    have hx := hz x List.mem_cons_self
    rw [List.length_cons] at hl
    rw [opt6_Emit.l, run (by decide) x.f1, Option.bind_some]
    dsimp only
    cases hr : runOk (L x.f1) with
    | false =>
      have he : emOk (x :: zs) = false := by unfold emOk; rw [List.all_cons, hr]; rfl
      rw [if_neg (by decide), he]
      rfl
    | true =>
      have he : emOk (x :: zs) = emOk zs := by unfold emOk; rw [List.all_cons, hr, Bool.true_and]
      have hb := runL_len (L x.f1)
      rw [if_pos rfl, Put16 (by decide) x.f0 hx.1 hx.2, Option.bind_some, if_pos (by rw [size_B, size_B, be2_length]; omega), emit_l zs _ (fun y hy => hz y (List.mem_cons_of_mem _ hy)) (by rw [ByteArray.size_append, ByteArray.size_append, size_B, size_B, be2_length]; omega), he]
      by_cases h : emOk zs = true
      · rw [if_pos h, if_pos h, emL]
        refine congrArg some (Prod.ext ?_ rfl)
        apply ext_L
        simp only [L_append, L_B, List.append_assoc]
      · rw [if_neg h, if_neg h]
theorem emit_eq (zs : List S40) (hz : ∀ x ∈ zs, okF x) (hl : zs.length ≤ 128) : opt6_Emit.f zs = some (if emOk zs = true then (B (emL zs), 0) else (NIL, 130)) := by
  unfold opt6_Emit.f
  rw [if_neg (by omega), emit_l zs _ hz (by show 0 + _ ≤ _; omega)]
  by_cases h : emOk zs = true
  · rw [if_pos h, if_pos h]
    refine congrArg some (Prod.ext ?_ rfl)
    apply ext_L
    rw [L_append, L_B]
    rfl
  · rw [if_neg h, if_neg h]
theorem emOk_cons {x : S40} {zs : List S40} (h : emOk (x :: zs) = true) : runOk (L x.f1) = true ∧ emOk zs = true := by
  unfold emOk at h ⊢
  rwa [List.all_cons, Bool.and_eq_true] at h
theorem prs_emit : ∀ (zs : List S40) (pre : List UInt8) (d : Nat) (acc : List S40), emOk zs = true → (∀ x ∈ zs, okF x) → acc.length + zs.length ≤ 128 → zs.length < d → prs (pre ++ emL zs) d acc (pre.length : Int) = (acc ++ zs, 0)
  | [], pre, d, acc, _, _, _, hd => by
    obtain ⟨d, rfl⟩ : ∃ m, d = m + 1 := ⟨d - 1, by simp at hd; omega⟩
    rw [prs, emL, List.append_nil, if_neg (by omega), List.append_nil]
  | x :: zs, pre, d, acc, ho, hz, hl, hd => by
    rw [List.length_cons] at hl hd
    obtain ⟨d, rfl⟩ : ∃ m, d = m + 1 := ⟨d - 1, by omega⟩
    obtain ⟨h1, h2⟩ := emOk_cons ho
    have hx := hz x List.mem_cons_self
    have hr : (L x.f1).length ≤ 65535 := by simpa [runOk] using h1
    have hrun : runL (L x.f1) = be2 (L x.f1).length ++ L x.f1 := by unfold runL; rw [if_pos h1]
    have e1 : pre ++ emL (x :: zs) = pre ++ be2 x.f0 ++ ((be2 (L x.f1).length ++ L x.f1) ++ emL zs) := by rw [emL, hrun]; simp only [List.append_assoc]
    have e2 : pre ++ emL (x :: zs) = (pre ++ be2 x.f0) ++ (be2 (L x.f1).length ++ L x.f1) ++ emL zs := by rw [emL, hrun]; simp only [List.append_assoc]
    have hpl : ((pre ++ be2 x.f0).length : Int) = (pre.length : Int) + 2 := by rw [List.length_append, be2_length]; omega
    have hc : cutB (pre ++ emL (x :: zs)) (pre.length : Int) 2 = true := by rw [e1]; exact cutB_mid _ _ _ _ rfl
    have hg : getN (pre ++ emL (x :: zs)) (pre.length : Int) 2 = x.f0 := by rw [e1, getN_mid pre (be2 x.f0) _ 2 rfl, num_be2 _ hx.1 hx.2]
    obtain ⟨t1, t2, t3⟩ := take_mid (pre ++ be2 x.f0) (L x.f1) (emL zs) hr
    rw [← e2, hpl] at t1 t2 t3
    have hpos : (pre.length : Int) < ((pre ++ emL (x :: zs)).length : Int) := by rw [e1, List.length_append, List.length_append, be2_length]; omega
    have hpre : ((pre ++ be2 x.f0 ++ (be2 (L x.f1).length ++ L x.f1)).length : Int) = (pre.length : Int) + 2 + 2 + ((L x.f1).length : Int) := by
      rw [List.length_append, List.length_append, List.length_append, be2_length, be2_length]; omega
    rw [prs, if_pos hpos, if_pos ⟨hc, t1⟩, if_neg (by omega), hg, t2, t3, B_L, ← hpre, e2]
    have ih := prs_emit zs (pre ++ be2 x.f0 ++ (be2 (L x.f1).length ++ L x.f1)) d (acc ++ [x]) h2 (fun y hy => hz y (List.mem_cons_of_mem _ hy)) (by rw [List.length_append, List.length_singleton]; omega) (by omega)
    rw [ih, List.append_assoc]
    rfl
theorem emL_ge : ∀ zs : List S40, zs.length ≤ (emL zs).length
  | [] => Nat.le_refl _
  | x :: zs => by
    have := emL_ge zs
    rw [emL, List.length_append, List.length_append, be2_length, List.length_cons]
    omega
theorem drop_at (zs : List S40) (i : Nat) (h : i < zs.length) : zs.drop i = rd_T40 zs (i : Int) :: zs.drop (i + 1) := by
  rw [List.drop_eq_getElem_cons h]
  simp [rd_T40, List.getD_eq_getElem?_getD, List.getElem?_eq_getElem h]
theorem byte_range (c : UInt8) : -9223372036854775808 ≤ (c.toNat : Int) ∧ (c.toNat : Int) ≤ 9223372036854775807 := by have := c.toNat_lt; omega
theorem bt_getD (s : ByteArray) (i : Nat) (h : i < s.size) : bt s (i : Int) = (((L s).getD i 0).toNat : Int) := by
  rw [bt_L s i (by rw [← size_L]; exact h), List.getD_eq_getElem?_getD, List.getElem?_eq_getElem (by rw [← size_L]; exact h)]
  rfl
/-- All options of bytes. -/
def opts (l : List UInt8) : List S40 × Int := prs l (l.length + 1) [] 0
theorem parse_eq (s : ByteArray) (hs : s.size ≤ 4611686018427387904) (k : Nat) (hk : 300 ≤ k) : opt6_Parse.f k s = some (opts (L s)) := by
  unfold opt6_Parse.f opts
  rw [parse_go s hs (s.size + 1) k [] 0 (by omega) (by omega) (by omega) (by simp; omega) (by decide), size_L]
theorem opts_ok (l : List UInt8) : (∀ x ∈ (opts l).1, okO x) ∧ (opts l).1.length ≤ 128 := prs_ok l _ [] 0 (by decide) (fun x h => by cases h)
theorem opts_emit (zs : List S40) (ho : emOk zs = true) (hz : ∀ x ∈ zs, okF x) (hl : zs.length ≤ 128) : opts (emL zs) = (zs, 0) :=
  prs_emit zs [] ((emL zs).length + 1) [] ho hz (by simpa using hl) (by have := emL_ge zs; omega)
theorem extract_from (s : ByteArray) (n : Nat) : L (s.extract n s.size) = (L s).drop n := by
  rw [L_extract, List.take_of_length_le (by rw [List.length_drop, size_L]; omega)]
theorem getStatus_eq (s : ByteArray) (hs : s.size ≤ 4611686018427387904) (k : Nat) (hk : 10 ≤ k) : opt6_GetStatus.f k s = some (if cutB (L s) 0 2 = true then (getN (L s) 0 2, true) else (-1, false)) := by
  unfold opt6_GetStatus.f
  rw [get16 (by omega) s 0 hs (by omega), Option.bind_some]
  dsimp only
  by_cases h : cutB (L s) 0 2 = true
  · have hr : 0 ≤ getN (L s) 0 2 ∧ getN (L s) 0 2 < 65536 := by have := getN_range (L s) 0 2; simpa using this
    rw [if_pos h, if_pos h, w64 (by omega)]
  · rw [if_neg h, if_neg h]
theorem isCode_eq (c : Int) : opt6_isCode.f c = some (decide (-1 ≤ c ∧ c ≤ 65535)) := by
  unfold opt6_isCode.f
  by_cases h : c ≥ -1
  · rw [if_pos h]
    by_cases h2 : c ≤ 65535
    · rw [decide_eq_true h2, decide_eq_true (show -1 ≤ c ∧ c ≤ 65535 from ⟨h, h2⟩)]
    · rw [decide_eq_false h2, decide_eq_false (fun q => h2 q.2)]
  · rw [if_neg h, decide_eq_false (fun q => h q.1)]
/-- A status's data. -/
def stD (c : Int) : List UInt8 := if 0 ≤ c ∧ c ≤ 65535 then be2 c else []
theorem putStatus_eq (c : Int) (k : Nat) (hk : 10 ≤ k) : opt6_PutStatus.f k c = some (B (stD c)) := by
  unfold opt6_PutStatus.f stD
  by_cases h1 : c = -1
  · rw [if_pos h1, if_neg (by omega)]
    rfl
  · rw [if_neg h1, isCode_eq, Option.bind_some]
    by_cases h2 : -1 ≤ c ∧ c ≤ 65535
    · rw [if_pos (decide_eq_true h2), u16_wrap, if_pos (by omega), Int.emod_eq_of_lt (by omega) (by omega), Put16 (by omega) c (by omega) (by omega), Option.bind_some]
    · rw [if_neg (by simpa using h2), if_neg (by omega)]
      rfl
end Go.Proofs.Ytngojiikkokajaa.O6
