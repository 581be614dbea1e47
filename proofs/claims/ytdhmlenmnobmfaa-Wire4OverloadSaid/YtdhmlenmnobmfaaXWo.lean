/- Options that stand in the fields for names: read as if all stood behind the cookie: plain lemmas; conditions: the fields are of their kinds. -/
import Derived.Test.YtdhmlenmnobmfaaG0
import Derived.Test.YtdhmlenmnobmfaaG1
import Derived.Test.YtdhmlenmnobmfaaG2
import Derived.Test.YtdhmlenmnobmfaaG3
import Derived.Laws.BitsAllLaws
import Derived.Lib.Strings
import Derived.Test.YtdhmlenmnobmfaaXWs
set_option linter.unusedVariables false
set_option linter.unusedSimpArgs false
namespace Go.Proofs.Ytdhmlenmnobmfaa.W4
open Go.RowKit Go.Proofs.YtdhmlenmnobmfaaW.PrintWords Go.Proofs.YtdhmlenmnobmfaaW.PrintLast Go.Proofs.YtdhmlenmnobmfaaW.PrintMore Go.Proofs.Ytdhmlenmnobmfaa.X Go.Proofs.Ytdhmlenmnobmfaa.Oct Go.Proofs.Ytdhmlenmnobmfaa.Opt

/-- Data put to the first option of its code, or a new one. -/
def upd : List S47 → Int → ByteArray → List S47
  | [], c, d => [⟨c, d⟩]
  | o :: l, c, d => if o.f0 = c then ⟨o.f0, o.f1 ++ d⟩ :: l else o :: upd l c d
theorem upd_none : ∀ (l : List S47) (c : Int) (d : ByteArray), (∀ x ∈ l, x.f0 ≠ c) → upd l c d = l ++ [⟨c, d⟩]
  | [], c, d, _ => rfl
  | o :: l, c, d, h => by rw [upd, if_neg (h o List.mem_cons_self), upd_none l c d (fun x hx => h x (List.mem_cons_of_mem _ hx))]; rfl
theorem upd_set : ∀ (l : List S47) (c : Int) (d : ByteArray) (j : Nat), j < l.length → (∀ q, q < j → (l.getD q z47).f0 ≠ c) → (l.getD j z47).f0 = c → upd l c d = l.set j ⟨(l.getD j z47).f0, (l.getD j z47).f1 ++ d⟩
  | [], c, d, j, h, _, _ => by simp at h
  | o :: l, c, d, 0, _, _, h => by
    have h' : o.f0 = c := h
    rw [upd, if_pos h']; rfl
  | o :: l, c, d, j + 1, h, h1, h2 => by
    have h0 : o.f0 ≠ c := h1 0 (by omega)
    rw [upd, if_neg h0, upd_set l c d j (by simpa using h) (fun q hq => h1 (q + 1) (by omega)) h2]; rfl
theorem addS_cases (l : List S47) (c : Int) (d : ByteArray) : addS l c d = (upd l c d, 0) ∨ addS l c d = ([], 6) := by
  unfold addS
  rcases idx_cases c l with ⟨e, h⟩ | ⟨j, hj, e, h1, h2⟩
  · rw [if_pos (by omega)]
    split
    · exact .inr rfl
    · rw [upd_none l c d h]; exact .inl rfl
  · rw [if_neg (by omega), e, Int.toNat_natCast]
    split
    · exact .inr rfl
    · rw [upd_set l c d j hj h1 h2]; exact .inl rfl
theorem drop_upd : ∀ (l : List S47) (c : Int) (d : ByteArray), drop52 (upd l c d) = if c = 52 then drop52 l else upd (drop52 l) c d
  | [], c, d => by
    unfold drop52 upd
    by_cases h : c = 52
    · subst h; simp
    · simp [h]
  | o :: l, c, d => by
    have ih := drop_upd l c d
    unfold drop52 at ih ⊢
    rw [upd]
    by_cases ho : o.f0 = c
    · rw [if_pos ho]
      by_cases h : c = 52
      · subst h; simp [ho]
      · rw [if_neg h]
        have : ¬ o.f0 = 52 := by rw [ho]; exact h
        rw [List.filter_cons_of_pos (by simpa using this), List.filter_cons_of_pos (by simpa using this), upd, if_pos ho]
    · rw [if_neg ho]
      by_cases h52 : o.f0 = 52
      · rw [List.filter_cons_of_neg (by simp [h52]), List.filter_cons_of_neg (by simp [h52]), ih]
      · rw [List.filter_cons_of_pos (by simpa using h52), List.filter_cons_of_pos (by simpa using h52), ih]
        split
        · rfl
        · rw [upd, if_neg ho]
/-- The pieces, put one behind the other. -/
def addAll : List S47 → List (UInt8 × List UInt8) → List S47 × Int
  | l, [] => (l, 0)
  | l, p :: ps => if (addS l p.1.toNat (B p.2)).2 = 0 then addAll (addS l p.1.toNat (B p.2)).1 ps else ([], 6)
def okP (p : UInt8 × List UInt8) : Prop := p.1 ≠ 0 ∧ p.1 ≠ 255 ∧ p.2.length ≤ 255
def encP (ps : List (UInt8 × List UInt8)) : List UInt8 := ps.flatMap fun p => p.1 :: UInt8.ofNat p.2.length :: p.2
theorem areaA_bad (l : List S47) (c m : UInt8) (d r : List UInt8) (h0 : c ≠ 0) (h1 : c ≠ 255) (hm : m.toNat = d.length) (he : (addS l c.toNat (B d)).2 ≠ 0) : areaA l (c :: m :: (d ++ r)) = ([], (addS l c.toNat (B d)).2) := by
  unfold areaA
  rw [List.length_cons, areaL_two, if_neg h1, if_neg h0, if_neg (by rw [List.length_append]; omega), hm, List.take_left' rfl, if_neg he]
theorem area_pieces : ∀ (ps : List (UInt8 × List UInt8)) (l : List S47) (r : List UInt8), (∀ p ∈ ps, okP p) → areaA l (encP ps ++ r) = if (addAll l ps).2 = 0 then areaA (addAll l ps).1 r else ([], 6)
  | [], l, r, _ => by simp [encP, addAll]
  | p :: ps, l, r, h => by
    obtain ⟨h0, h1, h2⟩ := h p List.mem_cons_self
    have e : encP (p :: ps) ++ r = p.1 :: UInt8.ofNat p.2.length :: (p.2 ++ (encP ps ++ r)) := by simp [encP]
    have hm : (UInt8.ofNat p.2.length).toNat = p.2.length := by simp; omega
    rw [e, addAll]
    by_cases ha : (addS l p.1.toNat (B p.2)).2 = 0
    · rw [if_pos ha, areaA_opt l p.1 _ p.2 _ h0 h1 hm ha, area_pieces ps _ r (fun q hq => h q (List.mem_cons_of_mem _ hq))]
    · rw [if_neg ha, areaA_bad l p.1 _ p.2 _ h0 h1 hm ha, if_neg (by decide)]
      rcases addS_cases l p.1.toNat (B p.2) with e2 | e2
      · rw [e2] at ha; exact absurd rfl ha
      · rw [e2]
theorem addAll_append : ∀ (ps qs : List (UInt8 × List UInt8)) (l : List S47), addAll l (ps ++ qs) = if (addAll l ps).2 = 0 then addAll (addAll l ps).1 qs else ([], 6)
  | [], qs, l => by simp [addAll]
  | p :: ps, qs, l => by
    rw [List.cons_append, addAll, addAll]
    split
    · exact addAll_append ps qs _
    · rfl
theorem addAll_err : ∀ (ps : List (UInt8 × List UInt8)) (l : List S47), (addAll l ps).2 = 0 ∨ addAll l ps = ([], 6)
  | [], l => .inl rfl
  | p :: ps, l => by
    rw [addAll]
    split
    · exact addAll_err ps _
    · exact .inr rfl
/-- Two lists alike but for one option stay alike. -/
theorem addAll_like : ∀ (ps : List (UInt8 × List UInt8)) (l1 l2 : List S47), drop52 l1 = drop52 l2 → (addAll l1 ps).2 = 0 → (addAll l2 ps).2 = 0 → drop52 (addAll l1 ps).1 = drop52 (addAll l2 ps).1
  | [], l1, l2, h, _, _ => h
  | p :: ps, l1, l2, h, h1, h2 => by
    rw [addAll] at h1 h2 ⊢
    rw [addAll]
    rcases addS_cases l1 p.1.toNat (B p.2) with e1 | e1
    · rcases addS_cases l2 p.1.toNat (B p.2) with e2 | e2
      · rw [e1, if_pos rfl] at h1 ⊢
        rw [e2, if_pos rfl] at h2 ⊢
        exact addAll_like ps _ _ (by rw [drop_upd, drop_upd, h]) h1 h2
      · rw [e2, if_neg (by decide)] at h2; exact absurd h2 (by decide)
    · rw [e1, if_neg (by decide)] at h1; exact absurd h1 (by decide)
def pcs1 : Nat → UInt8 → List UInt8 → List (UInt8 × List UInt8)
  | 0, c, d => [(c, d)]
  | n + 1, c, d => if d.length ≤ 255 then [(c, d)] else (c, d.take 255) :: pcs1 n c (d.drop 255)
theorem pcs1_enc : ∀ (n : Nat) (c : UInt8) (d : List UInt8), encP (pcs1 n c d) = pieceB n c d
  | 0, c, d => by simp [encP, pcs1, pieceB]
  | n + 1, c, d => by
    rw [pcs1, pieceB]
    split
    · simp [encP]
    · have ih := pcs1_enc n c (d.drop 255)
      have hl : (d.take 255).length = 255 := by rw [List.length_take]; omega
      unfold encP at ih ⊢
      rw [List.flatMap_cons, ih, hl]; rfl
theorem pcs1_ok : ∀ (n : Nat) (c : UInt8) (d : List UInt8), c ≠ 0 → c ≠ 255 → d.length ≤ 255 * n + 255 → ∀ p ∈ pcs1 n c d, okP p
  | 0, c, d, h0, h1, hd => by
    intro p hp
    obtain rfl := List.mem_singleton.1 hp
    exact ⟨h0, h1, by simpa using hd⟩
  | n + 1, c, d, h0, h1, hd => by
    intro p hp
    rw [pcs1] at hp
    split at hp
    · obtain rfl := List.mem_singleton.1 hp
      exact ⟨h0, h1, by assumption⟩
    · rcases List.mem_cons.1 hp with rfl | hp
      · exact ⟨h0, h1, by rw [List.length_take]; omega⟩
      · exact pcs1_ok n c (d.drop 255) h0 h1 (by rw [List.length_drop]; omega) p hp
def pcs (l : List S47) : List (UInt8 × List UInt8) := l.flatMap fun o => pcs1 17 (UInt8.ofNat o.f0.toNat) (L o.f1)
theorem pcs_enc : ∀ (l : List S47), encP (pcs l) = outB l
  | [] => rfl
  | o :: l => by
    have ih := pcs_enc l
    have e1 : pcs (o :: l) = pcs1 17 (UInt8.ofNat o.f0.toNat) (L o.f1) ++ pcs l := by simp [pcs]
    have e2 : outB (o :: l) = pieceB 17 (UInt8.ofNat o.f0.toNat) (L o.f1) ++ outB l := by simp [outB]
    rw [e1, e2, ← ih, ← pcs1_enc]
    simp [encP]
theorem pcs_ok {l : List S47} (h : Opt.Good l) : ∀ p ∈ pcs l, okP p := by
  intro p hp
  obtain ⟨o, ho, hp⟩ := List.mem_flatMap.1 hp
  obtain ⟨⟨c, hc, c0, c1⟩, hs⟩ := h.2.1 o ho
  rw [code_of hc] at hp
  exact pcs1_ok 17 c (L o.f1) c0 c1 (by rw [← size_L]; omega) p hp
theorem addAll_good {l : List S47} (h : Opt.Good l) : addAll [] (pcs l) = (l, 0) := by
  have e := read_back [] l [] (by simpa using h)
  rw [← pcs_enc, area_pieces _ _ _ (pcs_ok h)] at e
  rcases addAll_err (pcs l) [] with h2 | h2
  · rw [if_pos h2, areaA_end] at e
    simp only [List.nil_append, Prod.mk.injEq] at e
    exact Prod.ext e.1 h2
  · rw [h2, if_neg (by decide)] at e
    simp at e
/-- What is read of the first area: the message's options and the one that tells of the fields for names. -/
theorem first_area {l : List S47} (h : Opt.Good l) (h52 : (findL l).2 = false) (v : UInt8) :
    parseL [] [B (outB l ++ [52, 1, v, 255])] = if l.length < 128 then (l ++ [⟨52, B [v]⟩], 0) else ([], 6) := by
  have e : outB l ++ [52, 1, v, 255] = encP (pcs l) ++ (encP [((52 : UInt8), [v])] ++ [255]) := by rw [pcs_enc]; simp [encP]
  have hA : areaA [] (outB l ++ [52, 1, v, 255]) = if l.length < 128 then (l ++ [⟨52, B [v]⟩], 0) else ([], 6) := by
    rw [e, area_pieces _ _ _ (pcs_ok h), addAll_good h, if_pos rfl, area_pieces _ _ _ (by intro p hp; obtain rfl := List.mem_singleton.1 hp; exact ⟨(by show (52 : UInt8) ≠ 0; decide), (by show (52 : UInt8) ≠ 255; decide), (by show 1 ≤ 255; omega)⟩)]
    have hn := findL_none h52
    have hi := idx_none l 52 hn
    have ha : addS l 52 (B [v]) = if 128 ≤ l.length then ([], 6) else (l ++ [⟨52, B [v]⟩], 0) := by unfold addS; rw [hi, if_pos (by decide)]
    rw [addAll]
    show (if (if (addS l 52 (B [v])).2 = 0 then addAll (addS l 52 (B [v])).1 [] else ([], 6)).2 = 0 then areaA (if (addS l 52 (B [v])).2 = 0 then addAll (addS l 52 (B [v])).1 [] else ([], 6)).1 [255] else ([], 6)) = _
    by_cases hl : l.length < 128
    · have ha2 : addS l 52 (B [v]) = (l ++ [⟨52, B [v]⟩], 0) := by rw [ha, if_neg (show ¬ 128 ≤ l.length by omega)]
      rw [ha2, if_pos hl]
      show (if (addAll (l ++ [⟨52, B [v]⟩]) []).2 = 0 then areaA (addAll (l ++ [⟨52, B [v]⟩]) []).1 [255] else ([], 6)) = _
      exact areaA_end _ _
    · have ha2 : addS l 52 (B [v]) = ([], 6) := by rw [ha, if_pos (show 128 ≤ l.length by omega)]
      rw [ha2, if_neg hl]
      rfl
  unfold parseL
  show (if (areaA [] (outB l ++ [52, 1, v, 255])).2 = 0 then parseL (areaA [] (outB l ++ [52, 1, v, 255])).1 [] else ([], (areaA [] (outB l ++ [52, 1, v, 255])).2)) = _
  rw [hA]
  split <;> rfl
theorem parse_cons (l : List S47) (s : ByteArray) (r : List ByteArray) : parseL l (s :: r) = if (areaA l (L s)).2 = 0 then parseL (areaA l (L s)).1 r else ([], (areaA l (L s)).2) := by
  rw [parseL, show areaL s.size l (L s) = areaA l (L s) by unfold areaA; rw [size_L]]
/-- Fields for names that hold options, behind a list. -/
theorem parse_fields : ∀ (fs : List (List S47 × List UInt8)) (l : List S47), (∀ p ∈ fs, Opt.Good p.1) → parseL l (fs.map fun p => B (outB p.1 ++ 255 :: p.2)) = (addAll l (fs.flatMap fun p => pcs p.1))
  | [], l, _ => rfl
  | p :: fs, l, h => by
    have hg := h p List.mem_cons_self
    have hA : areaA l (L (B (outB p.1 ++ 255 :: p.2))) = if (addAll l (pcs p.1)).2 = 0 then ((addAll l (pcs p.1)).1, 0) else ([], 6) := by
      rw [L_B, ← pcs_enc, area_pieces _ _ _ (pcs_ok hg), areaA_end]
    rw [List.map_cons, parse_cons, hA, List.flatMap_cons, addAll_append]
    by_cases h2 : (addAll l (pcs p.1)).2 = 0
    · rw [if_pos h2, if_pos h2, if_pos rfl]; exact parse_fields fs _ (fun q hq => h q (List.mem_cons_of_mem _ hq))
    · rw [if_neg h2, if_neg h2, if_neg (by decide)]
/-- All behind the cookie. -/
theorem parse_want {l : List S47} (h : Opt.Good l) (fs : List (List S47)) (hf : ∀ x ∈ fs, Opt.Good x) : parseL [] [B (outB l ++ fs.flatMap outB)] = addAll l (fs.flatMap pcs) := by
  have e : outB l ++ fs.flatMap outB = encP (pcs l) ++ (encP (fs.flatMap pcs) ++ []) := by
    rw [pcs_enc, List.append_nil]
    congr 1
    clear hf
    induction fs with
    | nil => rfl
    | cons x fs ih => rw [List.flatMap_cons, List.flatMap_cons, ih, ← pcs_enc]; simp [encP]
  have hok : ∀ p ∈ fs.flatMap pcs, okP p := fun p hp => by
    obtain ⟨x, hx, hp⟩ := List.mem_flatMap.1 hp
    exact pcs_ok (hf x hx) p hp
  have hA : areaA [] (L (B (outB l ++ fs.flatMap outB))) = if (addAll l (fs.flatMap pcs)).2 = 0 then ((addAll l (fs.flatMap pcs)).1, 0) else ([], 6) := by
    rw [L_B, e, area_pieces _ _ _ (pcs_ok h), addAll_good h, if_pos rfl, area_pieces _ _ _ hok]
    rfl
  rw [parse_cons, hA]
  rcases addAll_err (fs.flatMap pcs) l with h2 | h2
  · rw [if_pos h2, if_pos rfl]
    exact Prod.ext rfl h2.symm
  · rw [h2, if_neg (by decide), if_neg (by decide)]
end Go.Proofs.Ytdhmlenmnobmfaa.W4
