/- Writing, finding and leaving out options: what both come to: plain lemmas; conditions: a list's length is within reach. -/
import Derived.Test.YtdhmlenmnobmfaaG0
import Derived.Test.YtdhmlenmnobmfaaG1
import Derived.Test.YtdhmlenmnobmfaaG2
import Derived.Test.YtdhmlenmnobmfaaG3
import Derived.Laws.BitsAllLaws
import Derived.Lib.Strings
import Derived.Test.YtdhmlenmnobmfaaXOpt
set_option linter.unusedVariables false
set_option linter.unusedSimpArgs false
namespace Go.Proofs.Ytdhmlenmnobmfaa.Opt
open Go.RowKit Go.Proofs.YtdhmlenmnobmfaaW.PrintWords Go.Proofs.YtdhmlenmnobmfaaW.PrintLast Go.Proofs.YtdhmlenmnobmfaaW.PrintMore Go.Proofs.Ytdhmlenmnobmfaa.X Go.Proofs.Ytdhmlenmnobmfaa.Oct

theorem find_some (l : List S47) (c : Int) : ∃ r, opt4_Find.f l c = some r := by
  rw [opt4_Find.f, hasix.f, Option.bind_some]
  rcases idx_cases c l with ⟨e1, _⟩ | ⟨j, j1, e1, _, _⟩
  · rw [if_pos (by omega)]; exact ⟨_, rfl⟩
  · rw [if_neg (by omega), if_pos (by omega), if_pos (by omega)]; exact ⟨_, rfl⟩
/-- An option's bytes, as numbers: pieces of up to 255. -/
def pieceL : Nat → Int → List UInt8 → List Int
  | 0, c, d => [c, (d.length : Int)] ++ d.map (fun x => (x.toNat : Int))
  | n + 1, c, d => if d.length ≤ 255 then [c, (d.length : Int)] ++ d.map (fun x => (x.toNat : Int)) else [c, 255] ++ (d.take 255).map (fun x => (x.toNat : Int)) ++ pieceL n c (d.drop 255)
theorem piece_len : ∀ (n : Nat) (c : Int) (d : List UInt8), (pieceL n c d).length ≤ d.length + 2 * n + 2
  | 0, c, d => by simp [pieceL]
  | n + 1, c, d => by
    unfold pieceL
    split
    · simp
    · have := piece_len n c (d.drop 255)
      rw [List.length_append, List.length_append, List.length_map, List.length_take]
      rw [List.length_drop] at this
      simp; omega
/-- What is refused: the option at j. -/
def badO (l : List S47) (j : Nat) : Prop := (l.getD j z47).f0 = 0 ∨ (l.getD j z47).f0 = 255 ∨ 4096 < (l.getD j z47).f1.size ∨ idxOf (l.getD j z47).f0 l 0 < (j : Int)
instance (l : List S47) (j : Nat) : Decidable (badO l j) := by unfold badO; infer_instance
def emitS (l : List S47) : Nat → Nat → List Int → ByteArray × Int
  | 0, j, acc => (strOfNums (acc ++ [255]), 0)
  | n + 1, j, acc => if badO l j then (⟨#[]⟩, 130) else emitS l n (j + 1) (acc ++ pieceL 17 (l.getD j z47).f0 (L (l.getD j z47).f1))
theorem bytes_take (s : ByteArray) (n : Nat) : bytesOf (s.extract 0 n) = ((L s).take n).map (fun x => (x.toNat : Int)) := by
  rw [bytesOf_L, L_extract, List.drop_zero, Nat.sub_zero]
theorem L_drop (s : ByteArray) (n : Nat) : L (s.extract n s.size) = (L s).drop n := by
  rw [L_extract, List.take_of_length_le]
  rw [List.length_drop]; exact Nat.le_refl _
theorem mn255 (n : Nat) : mn 255 (n : Int) = if n ≤ 255 then (n : Int) else 255 := by unfold mn; split <;> split <;> omega
/-- The program's inner loop. -/
theorem inner_go : ∀ (n K : Nat) (x0 : List S47) (x4 : List Int) (s : ByteArray) (x12 : List S47) (x13 x14 : Int) (c : Int) (d : ByteArray) (r : ByteArray × Int), s.size ≤ 255 * n + 255 → x4.length + s.size + 2 * n ≤ 10000000 →
    (∀ k, K ≤ k → opt4_Emit.l0 k x0 (x4 ++ pieceL n c (L s)) x12 x13 (wrap64 (x14 + 1)) = some r) → ∀ k, K + n + 1 ≤ k → opt4_Emit.l1 k x0 x4 s x12 x13 x14 c d = some r := by
  intro n
  induction n with
  | zero =>
    intro K x0 x4 s x12 x13 x14 c d r hs hb h k hk
    obtain ⟨k, rfl⟩ : ∃ m, k = m + 1 := ⟨k - 1, by omega⟩
    have hz : (s.extract 0 s.size).size = s.size := by rw [ByteArray.size_extract]; omega
    have he : (s.extract s.size s.size).toList = [] := by rw [toList_L, L_drop]; exact List.drop_eq_nil_of_le (by rw [← size_L]; exact Nat.le_refl _)
    have ht : bytesOf (s.extract 0 s.size) = (L s).map (fun x => (x.toNat : Int)) := by rw [bytes_take, List.take_of_length_le (by rw [← size_L]; exact Nat.le_refl _)]
    rw [opt4_Emit.l1, mn255, if_pos (by omega), Int.toNat_natCast, Option.bind_some, if_pos (by simp; omega), Option.bind_some, if_pos (by omega), if_pos (by omega), if_pos (by rw [hz]; simp; omega), Option.bind_some, if_pos he, ht]
    have := h k (by omega)
    rw [pieceL, ← size_L] at this
    simpa using this
  | succ m ih =>
    intro K x0 x4 s x12 x13 x14 c d r hs hb h k hk
    obtain ⟨k, rfl⟩ : ∃ m, k = m + 1 := ⟨k - 1, by omega⟩
    by_cases h255 : s.size ≤ 255
    · have hz : (s.extract 0 s.size).size = s.size := by rw [ByteArray.size_extract]; omega
      have he : (s.extract s.size s.size).toList = [] := by rw [toList_L, L_drop]; exact List.drop_eq_nil_of_le (by rw [← size_L]; exact Nat.le_refl _)
      have ht : bytesOf (s.extract 0 s.size) = (L s).map (fun x => (x.toNat : Int)) := by rw [bytes_take, List.take_of_length_le (by rw [← size_L]; exact Nat.le_refl _)]
      rw [opt4_Emit.l1, mn255, if_pos h255, Int.toNat_natCast, Option.bind_some, if_pos (by simp; omega), Option.bind_some, if_pos (by omega), if_pos (by omega), if_pos (by rw [hz]; simp; omega), Option.bind_some, if_pos he, ht]
      have := h k (by omega)
      rw [pieceL, if_pos (by rw [← size_L]; exact h255), ← size_L] at this
      simpa using this
    · have hz : (s.extract 0 255).size = 255 := by rw [ByteArray.size_extract]; omega
      have hd : (s.extract 255 s.size).size = s.size - 255 := by rw [ByteArray.size_extract]; omega
      have he : ¬ (s.extract 255 s.size).toList = [] := by
        rw [toList_L]
        intro h0
        have := congrArg List.length h0
        rw [← size_L, hd] at this
        simp at this; omega
      rw [opt4_Emit.l1, mn255, if_neg h255, show ((255 : Int)).toNat = 255 from rfl, Option.bind_some, if_pos (by simp; omega), Option.bind_some, if_pos (by decide), if_pos (by omega), if_pos (by rw [hz]; simp; omega), Option.bind_some, if_neg he, bytes_take]
      refine ih K x0 _ _ x12 x13 x14 c d r (by omega) ?_ ?_ k (by omega)
      · rw [hd]
        simp only [List.length_append, List.length_map, List.length_take, List.length_cons, List.length_nil]
        omega
      · intro k' hk'
        have := h k' hk'
        rw [pieceL, if_neg (by rw [← size_L]; exact h255)] at this
        rw [L_drop]
        simpa [List.append_assoc] using this
theorem dup_iff (l : List S47) (j : Nat) (hj : j < l.length) : (0 ≤ idxOf (l.getD j z47).f0 (l.take j) 0) ↔ idxOf (l.getD j z47).f0 l 0 < (j : Int) := by
  have hg : ∀ q, q < j → (l.take j).getD q z47 = l.getD q z47 := fun q hq => by
    rw [List.getD_eq_getElem?_getD, List.getD_eq_getElem?_getD, List.getElem?_take, if_pos hq]
  rcases idx_cases (l.getD j z47).f0 l with ⟨e1, e2⟩ | ⟨a, a1, a2, a3, a4⟩
  · exfalso
    refine e2 (l.getD j z47) ?_ rfl
    rw [List.getD_eq_getElem?_getD, List.getElem?_eq_getElem hj]
    exact List.getElem_mem hj
  · rcases idx_cases (l.getD j z47).f0 (l.take j) with ⟨b1, b2⟩ | ⟨b, b1, b2, b3, b4⟩
    · rw [b1, a2]
      constructor
      · intro h; omega
      · intro h
        exfalso
        have haj : a < j := by omega
        refine b2 (l.getD a z47) ?_ a4
        rw [← hg a haj]
        have : a < (l.take j).length := by rw [List.length_take]; omega
        rw [List.getD_eq_getElem?_getD, List.getElem?_eq_getElem this]
        exact List.getElem_mem this
    · rw [b2, a2]
      have hbj : b < j := by rw [List.length_take] at b1; omega
      rw [hg b hbj] at b4
      constructor
      · intro _
        rcases Nat.lt_or_ge b a with h | h
        · exact absurd b4 (a3 b h)
        · omega
      · intro _; omega
theorem emit_go : ∀ (n k : Nat) (l : List S47) (j : Nat) (acc : List Int), l.length ≤ 128 → l.length - j = n → j ≤ l.length → acc.length ≤ 5000 * j → 60 * n + 60 ≤ k → opt4_Emit.l0 k l acc l (l.length : Int) (j : Int) = some (emitS l n j acc) := by
  intro n
  induction n with
  | zero =>
    intro k l j acc hs hn hj ha hk
    obtain ⟨k, rfl⟩ : ∃ m, k = m + 1 := ⟨k - 1, by omega⟩
    rw [opt4_Emit.l0, if_neg (by omega), if_pos (by omega)]; rfl
  | succ m ih =>
    intro k l j acc hs hn hj ha hk
    obtain ⟨k, rfl⟩ : ∃ m, k = m + 2 := ⟨k - 2, by omega⟩
    have hjl : j < l.length := by omega
    have hrd : rd_T47 l (j : Int) = l.getD j z47 := rfl
    have hw : wrap64 ((j : Int) + 1) = ((j + 1 : Nat) : Int) := (w64 (n := (j : Int) + 1) (by omega)).trans (by omega)
    rw [opt4_Emit.l0, if_pos (by omega), if_pos (by omega), if_pos (by omega), hrd, emitS]
    by_cases h0 : (l.getD j z47).f0 = 0
    · rw [if_pos h0, opt4_Emit.j1, if_pos rfl, if_pos (show badO l j from Or.inl h0)]
    rw [if_neg h0]
    by_cases h1 : (l.getD j z47).f0 = 255
    · rw [if_pos h1, opt4_Emit.j1, if_pos rfl, if_pos (show badO l j from Or.inr (Or.inl h1))]
    rw [if_neg h1]
    by_cases h2 : 4096 < (l.getD j z47).f1.size
    · rw [if_pos (by omega), opt4_Emit.j1, if_pos rfl, if_pos (show badO l j from Or.inr (Or.inr (Or.inl h2)))]
    rw [if_neg (by omega), if_pos (by omega), Int.toNat_natCast, hascon.f, Option.bind_some, opt4_Emit.j1]
    by_cases h3 : idxOf (l.getD j z47).f0 l 0 < (j : Int)
    · rw [if_pos (by rw [decide_eq_true_eq]; exact (dup_iff l j hjl).2 h3), if_pos (show badO l j from Or.inr (Or.inr (Or.inr h3)))]
    · rw [if_neg (by rw [decide_eq_true_eq]; exact fun h => h3 ((dup_iff l j hjl).1 h)), if_neg (show ¬ badO l j by rintro (h | h | h | h); exact h0 h; exact h1 h; exact h2 h; exact h3 h)]
      have hpl := piece_len 17 (l.getD j z47).f0 (L (l.getD j z47).f1)
      rw [← size_L] at hpl
      refine inner_go 17 (60 * m + 60) l acc _ l _ _ _ _ _ (by omega) (by omega) (fun k' hk' => ?_) k (by omega)
      rw [hw]
      exact ih k' l (j + 1) _ hs (by omega) (by omega) (by rw [List.length_append]; omega) hk'
theorem emit_eq {k : Nat} (l : List S47) (hk : 60 * l.length + 60 ≤ k) : opt4_Emit.f k l = some (if 128 < l.length then (⟨#[]⟩, 6) else emitS l l.length 0 []) := by
  rw [opt4_Emit.f]
  by_cases h : 128 < l.length
  · rw [if_pos (by omega), if_pos h]
  · rw [if_neg (by omega), if_neg h]
    exact emit_go l.length k l 0 [] (by omega) (by omega) (by omega) (by simp) hk
end Go.Proofs.Ytdhmlenmnobmfaa.Opt
