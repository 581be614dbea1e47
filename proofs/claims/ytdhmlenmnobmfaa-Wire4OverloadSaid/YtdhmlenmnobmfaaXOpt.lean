/- What the functions of package opt4 come to, over lists of bytes: plain lemmas; conditions: strings are within the reach of the form. -/
import Derived.Test.YtdhmlenmnobmfaaG0
import Derived.Test.YtdhmlenmnobmfaaG1
import Derived.Test.YtdhmlenmnobmfaaG2
import Derived.Test.YtdhmlenmnobmfaaG3
import Derived.Laws.BitsAllLaws
import Derived.Lib.Strings
import Derived.Test.YtdhmlenmnobmfaaXOct
set_option linter.unusedVariables false
set_option linter.unusedSimpArgs false
namespace Go.Proofs.Ytdhmlenmnobmfaa.Opt
open Go.RowKit Go.Proofs.YtdhmlenmnobmfaaW.PrintWords Go.Proofs.YtdhmlenmnobmfaaW.PrintLast Go.Proofs.YtdhmlenmnobmfaaW.PrintMore Go.Proofs.Ytdhmlenmnobmfaa.X Go.Proofs.Ytdhmlenmnobmfaa.Oct

/-- Data put to the option of its code. -/
def addS (l : List S47) (c : Int) (d : ByteArray) : List S47 × Int :=
  if idxOf c l 0 < 0 then (if 128 ≤ l.length then ([], 6) else (l ++ [⟨c, d⟩], 0))
  else if 4096 < (l.getD (idxOf c l 0).toNat z47).f1.size + d.size then ([], 6)
  else (l.set (idxOf c l 0).toNat ⟨(l.getD (idxOf c l 0).toNat z47).f0, (l.getD (idxOf c l 0).toNat z47).f1 ++ d⟩, 0)
/-- An area's options, behind a list. -/
def areaL : Nat → List S47 → List UInt8 → List S47 × Int
  | 0, l, _ => (l, 0)
  | _ + 1, l, [] => (l, 0)
  | n + 1, l, c :: r => if c = 255 then (l, 0) else if c = 0 then areaL n l r else match r with
    | [] => ([], 3)
    | m :: q => if q.length < m.toNat then ([], 3) else if (addS l c.toNat (B (q.take m.toNat))).2 = 0 then areaL n (addS l c.toNat (B (q.take m.toNat))).1 (q.drop m.toNat) else ([], (addS l c.toNat (B (q.take m.toNat))).2)
/-- A list ar parsing makes it. -/
def Fit (l : List S47) : Prop := l.length ≤ 128 ∧ ∀ x ∈ l, x.f1.size ≤ 4096
theorem idx_cases (c : Int) (l : List S47) : (idxOf c l 0 = -1 ∧ ∀ x ∈ l, x.f0 ≠ c) ∨ ∃ j, j < l.length ∧ idxOf c l 0 = (j : Int) ∧ (∀ q, q < j → (l.getD q z47).f0 ≠ c) ∧ (l.getD j z47).f0 = c := by
  have h := idxOf_spec c l 0
  simpa using h
theorem fit_add {l : List S47} (h : Fit l) (c : Int) (d : ByteArray) (hd : d.size ≤ 4096) : Fit (addS l c d).1 := by
  unfold addS
  split
  · split
    · exact ⟨by simp, by simp⟩
    · refine ⟨by rw [List.length_append]; simp; omega, ?_⟩
      intro x hx
      rcases List.mem_append.1 hx with hx | hx
      · exact h.2 x hx
      · obtain rfl := List.mem_singleton.1 hx; exact hd
  · split
    · exact ⟨by simp, by simp⟩
    · refine ⟨by rw [List.length_set]; exact h.1, ?_⟩
      intro x hx
      rcases List.mem_or_eq_of_mem_set hx with hx | rfl
      · exact h.2 x hx
      · show (_ ++ _ : ByteArray).size ≤ 4096
        rw [ByteArray.size_append]; omega
theorem areaL_nil (n : Nat) (l : List S47) : areaL n l [] = (l, 0) := by cases n <;> rfl
theorem area_end (k : Nat) (l : List S47) (s : ByteArray) (x : Int) : opt4_area.j1 (k + 1) l s x false = some (l, 0) := by rw [opt4_area.j1, if_neg (by decide)]
theorem bt_c (s : ByteArray) (i : Nat) (c : UInt8) (r : List UInt8) (h : (L s).drop i = c :: r) : bt s (i : Int) = (c.toNat : Int) ∧ i < s.size ∧ (L s).drop (i + 1) = r ∧ s.size = i + 1 + r.length := by
  have hi : i < (L s).length := by
    rcases Nat.lt_or_ge i (L s).length with h1 | h1
    · exact h1
    · rw [List.drop_eq_nil_of_le h1] at h; cases h
  have hd := List.drop_eq_getElem_cons hi
  rw [h] at hd
  injection hd with h1 h2
  refine ⟨by rw [bt_L s i hi, ← h1], hi, h2.symm, ?_⟩
  rw [size_L]
  have := congrArg List.length h
  rw [List.length_drop, List.length_cons] at this
  omega
theorem u8ne {c : UInt8} {m : Nat} (hm : m < 256) : ((c.toNat : Int) = (m : Int)) ↔ c = UInt8.ofNat m := by
  constructor
  · intro h
    have : c.toNat = m := by omega
    rw [← this]; simp
  · rintro rfl
    simp; omega
theorem drop_cons {s : ByteArray} {i : Nat} (h : i < s.size) : ∃ c r, (L s).drop i = c :: r := ⟨_, _, List.drop_eq_getElem_cons (by rw [← size_L]; exact h)⟩

theorem area_eq : ∀ (n k : Nat) (l : List S47) (s : ByteArray) (i : Nat), s.size ≤ 140737500000000 → i ≤ s.size → s.size - i ≤ n → Fit l → 2 * n + 2 ≤ k → opt4_area.l0 k l s (i : Int) = some (areaL n l ((L s).drop i)) := by
  intro n
  induction n using Nat.strongRecOn with
  | ind n ih =>
      intro k l s i hs hi hn hf hk
      obtain ⟨k, rfl⟩ : ∃ m, k = m + 2 := ⟨k - 2, by omega⟩
      rw [opt4_area.l0]
      by_cases hlt : i < s.size
      · obtain ⟨m, rfl⟩ : ∃ m, n = m + 1 := ⟨n - 1, by omega⟩
        obtain ⟨c, r, hcr⟩ := drop_cons hlt
        obtain ⟨hb, _, hr, hsz⟩ := bt_c s i c r hcr
        rw [if_pos (by omega), if_pos (by omega), hcr, hb]
        by_cases h255 : c = 255
        · subst h255
          rw [show (((255 : UInt8).toNat : Int) != 255) = false by decide, area_end]; rfl
        have hc255 : ((c.toNat : Int) != 255) = true := by
          rw [bne_iff_ne]
          intro h
          exact h255 ((u8ne (m := 255) (by omega)).1 h)
        rw [hc255, opt4_area.j1, if_pos rfl, if_pos (by omega), if_pos (by omega), hb]
        by_cases h0 : c = 0
        · subst h0
          rw [if_pos (by decide), w64 (by omega), show ((i : Int) + 1) = ((i + 1 : Nat) : Int) by omega, ih m (by omega) k l s (i + 1) hs (by omega) (by omega) hf (by omega), hr]
          simp [areaL]
        have hc0 : ¬ (c.toNat : Int) = 0 := fun h => h0 ((u8ne (m := 0) (by omega)).1 h)
        rw [if_neg hc0, w64 (by omega), cut s _ 1 (by omega) (by omega) (by omega), Option.bind_some]
        rcases r with _ | ⟨q, r⟩
        · have hcb : cutB (L s) ((i : Int) + 1) 1 = false := by
            simp only [cutB, decide_eq_false_iff_not]
            rw [List.length_nil] at hsz
            rw [← size_L]; omega
          rw [hcb, if_neg (by simp)]
          simp [areaL, h255, h0]
        · obtain ⟨hb2, _, hr2, hsz2⟩ := bt_c s (i + 1) q r hr
          have hcb : cutB (L s) ((i : Int) + 1) 1 = true := by
            simp only [cutB, decide_eq_true_eq]
            rw [← size_L]; omega
          have hcl : cutL (L s) ((i : Int) + 1) 1 = [q] := by
            unfold cutL
            rw [hcb, if_pos rfl, show ((i : Int) + 1).toNat = i + 1 by omega, hr]; rfl
          have hq := q.toNat_lt
          rw [hcb, hcl, if_pos rfl, if_pos (by rw [size_B]; simp), show bt (B [q]) 0 = (q.toNat : Int) from bt_L (B [q]) 0 (by show 0 < 1; omega), w64 (by omega), w64 (by omega), cut s _ _ (by omega) (by omega) (by omega), Option.bind_some]
          by_cases hsh : r.length < q.toNat
          · have hcb2 : cutB (L s) ((i : Int) + 1 + 1) (q.toNat : Int) = false := by
              simp only [cutB, decide_eq_false_iff_not]
              rw [← size_L]; omega
            rw [hcb2, if_neg (by simp)]
            simp [areaL, h255, h0, hsh]
          · have hcb2 : cutB (L s) ((i : Int) + 1 + 1) (q.toNat : Int) = true := by
              simp only [cutB, decide_eq_true_eq]
              rw [← size_L]; omega
            have hcl2 : cutL (L s) ((i : Int) + 1 + 1) (q.toNat : Int) = r.take q.toNat := by
              unfold cutL
              rw [hcb2, if_pos rfl, show ((i : Int) + 1 + 1).toNat = i + 1 + 1 by omega, hr2, Int.toNat_natCast]
            have hdz : (B (r.take q.toNat)).size = q.toNat := by rw [size_B, List.length_take]; omega
            have hfd := fit_add hf (c.toNat : Int) (B (r.take q.toNat)) (by omega)
            have hnx : wrap64 (((i : Int) + 1) + (wrap64 (1 + ((B (r.take q.toNat)).size : Int)))) = ((i + 2 + q.toNat : Nat) : Int) := by rw [hdz, w64 (n := 1 + (q.toNat : Int)) (by omega), w64 (by omega)]; omega
            have hrest : (L s).drop (i + 2 + q.toNat) = r.drop q.toNat := by rw [← hr2, List.drop_drop]
            rw [hcb2, hcl2, if_pos rfl, hasix.f, Option.bind_some, hnx]
            simp only [areaL, h255, h0, hsh, if_false]
            unfold addS at hfd
            rcases idx_cases (c.toNat : Int) l with ⟨e1, e2⟩ | ⟨j, j1, e1, e2, e3⟩
            · have hz : idxOf (c.toNat : Int) l 0 < 0 := by omega
              rw [if_pos hz] at hfd
              rw [if_pos hz]
              unfold addS
              rw [if_pos hz]
              by_cases h128 : 128 ≤ l.length
              · rw [if_pos (show (l.length : Int) ≥ 128 by omega), if_pos h128]; rfl
              · have hz0 : (⟨#[]⟩ : ByteArray) ++ B (r.take q.toNat) = B (r.take q.toNat) := ext_L (by rw [L_append]; rfl)
                have hlast : rd_T47 (l ++ [(⟨(c.toNat : Int), (⟨#[]⟩ : ByteArray)⟩ : S47)]) (l.length : Int) = ⟨(c.toNat : Int), (⟨#[]⟩ : ByteArray)⟩ := by
                  show List.getD _ _ _ = _
                  simp
                have hset : (l ++ [(⟨(c.toNat : Int), (⟨#[]⟩ : ByteArray)⟩ : S47)]).set l.length ⟨(c.toNat : Int), B (r.take q.toNat)⟩ = l ++ [(⟨(c.toNat : Int), B (r.take q.toNat)⟩ : S47)] := by simp
                have hlast2 : rd_T47 (l ++ [(⟨(c.toNat : Int), B (r.take q.toNat)⟩ : S47)]) (l.length : Int) = ⟨(c.toNat : Int), B (r.take q.toNat)⟩ := by
                  show List.getD _ _ _ = _
                  simp
                rw [if_neg h128] at hfd
                rw [if_neg (show ¬ (l.length : Int) ≥ 128 by omega), if_neg h128, if_pos (show l.length < 5864062014805 by have := hf.1; omega), Option.bind_some, if_pos (by omega), if_pos (by rw [List.length_append]; simp; omega), hlast, if_pos (by show (0 : Nat) + _ ≤ _; omega), Option.bind_some]
                simp only [hz0, hset, hlast2]
                rw [if_neg (by omega), ih m (by omega) k _ s (i + 2 + q.toNat) hs (by omega) (by omega) hfd (by omega), hrest]; simp
            · have hz : ¬ idxOf (c.toNat : Int) l 0 < 0 := by omega
              rw [if_neg hz, e1, Int.toNat_natCast] at hfd
              rw [if_neg hz]
              unfold addS
              rw [if_neg hz, e1, Int.toNat_natCast]
              have hrd : rd_T47 l (j : Int) = l.getD j z47 := rfl
              have hjs : (l.getD j z47).f1.size ≤ 4096 := by
                refine hf.2 _ ?_
                rw [List.getD_eq_getElem?_getD, List.getElem?_eq_getElem j1]
                exact List.getElem_mem j1
              have hset : rd_T47 (l.set j (⟨(l.getD j z47).f0, (l.getD j z47).f1 ++ B (r.take q.toNat)⟩ : S47)) (j : Int) = ⟨(l.getD j z47).f0, (l.getD j z47).f1 ++ B (r.take q.toNat)⟩ := by
                show List.getD _ _ _ = _
                rw [List.getD_eq_getElem?_getD, Int.toNat_natCast, List.getElem?_set_self j1]; rfl
              rw [hrd, if_pos (by omega), if_pos (by omega), if_pos (by omega), Option.bind_some]
              simp only [hset, ByteArray.size_append]
              by_cases hbig : 4096 < (l.getD j z47).f1.size + (B (r.take q.toNat)).size
              · rw [if_pos (by omega), if_pos hbig]; rfl
              · rw [if_neg hbig] at hfd
                rw [if_neg (by omega), if_neg hbig]
                rw [if_pos rfl, ih m (by omega) k _ s (i + 2 + q.toNat) hs (by omega) (by omega) hfd (by omega), hrest]
      · rw [if_neg (by omega), area_end, List.drop_eq_nil_of_le (by rw [← size_L]; omega), areaL_nil]
theorem fit_area : ∀ (n : Nat) (l : List S47) (bs : List UInt8), Fit l → Fit (areaL n l bs).1
  | 0, l, _, h => h
  | _ + 1, l, [], h => h
  | n + 1, l, c :: r, h => by
    unfold areaL
    split
    · exact h
    · split
      · exact fit_area n l r h
      · split
        · exact ⟨by simp, by simp⟩
        · rename_i m q
          split
          · exact ⟨by simp, by simp⟩
          · split
            · exact fit_area n _ _ (fit_add h _ _ (by have := m.toNat_lt; rw [size_B, List.length_take]; omega))
            · exact ⟨by simp, by simp⟩
/-- Areas, one behind the other. -/
def parseL : List S47 → List ByteArray → List S47 × Int
  | l, [] => (l, 0)
  | l, s :: r => if (areaL s.size l (L s)).2 = 0 then parseL (areaL s.size l (L s)).1 r else ([], (areaL s.size l (L s)).2)
theorem rdOf_at (l : List ByteArray) (i : Nat) (h : i < l.length) : rdOf ByteArray.empty l (i : Int) = l[i] := by
  simp [rdOf, List.getD_eq_getElem?_getD, List.getElem?_eq_getElem h]
theorem parse_go : ∀ (n k M : Nat) (l : List S47) (ar : List ByteArray) (i : Nat), M ≤ 140737500000000 → ar.length ≤ 140737488351232 → (∀ y ∈ ar, y.size ≤ M) → ar.length - i ≤ n → Fit l → n + 3 * M + 200 ≤ k → opt4_Parse.l0 k l ar (ar.length : Int) (i : Int) = some (parseL l (ar.drop i)) := by
  intro n
  induction n using Nat.strongRecOn with
  | ind n ih =>
      intro k M l ar i hM hs ha hn hf hk
      obtain ⟨k, rfl⟩ : ∃ m, k = m + 1 := ⟨k - 1, by omega⟩
      rw [opt4_Parse.l0]
      by_cases hlt : i < ar.length
      · obtain ⟨m, rfl⟩ : ∃ m, n = m + 1 := ⟨n - 1, by omega⟩
        have hz := ha _ (List.getElem_mem hlt)
        have e := area_eq (ar[i].size) k l ar[i] 0 (by omega) (by omega) (by omega) hf (by omega)
        rw [List.drop_zero, show ((0 : Nat) : Int) = 0 from rfl] at e
        rw [if_pos (by omega), if_pos (by omega), if_pos (by omega), rdOf_at ar i hlt, opt4_area.f, e, Option.bind_some, List.drop_eq_getElem_cons hlt, parseL]
        by_cases h0 : (areaL ar[i].size l (L ar[i])).2 = 0
        · rw [if_pos h0, if_pos h0, w64 (by omega), show ((i : Int) + 1) = ((i + 1 : Nat) : Int) by omega, ih m (by omega) k M _ ar (i + 1) hM hs ha (by omega) (fit_area _ _ _ hf) (by omega)]
        · rw [if_neg h0, if_neg h0]
      · rw [if_neg (by omega), List.drop_eq_nil_of_le (by omega)]; rfl
theorem fit_nil : Fit [] := ⟨by simp, by simp⟩
theorem fit_parse : ∀ (ar : List ByteArray) (l : List S47), Fit l → Fit (parseL l ar).1
  | [], l, h => h
  | s :: r, l, h => by
    unfold parseL
    split
    · exact fit_parse r _ (fit_area _ _ _ h)
    · exact fit_nil
theorem parse_eq {k M : Nat} (hM : M ≤ 140737500000000) (ar : List ByteArray) (hs : ar.length ≤ 140737488351232) (ha : ∀ y ∈ ar, y.size ≤ M) (hk : ar.length + 3 * M + 200 ≤ k) : opt4_Parse.f k ar = some (parseL [] ar) := by
  have h := parse_go ar.length k M [] ar 0 hM hs ha (by omega) fit_nil hk
  rw [List.drop_zero] at h
  exact h
end Go.Proofs.Ytdhmlenmnobmfaa.Opt
