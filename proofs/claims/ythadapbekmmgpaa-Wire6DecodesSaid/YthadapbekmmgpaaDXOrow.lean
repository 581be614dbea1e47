/- A row of the call's own whose cells can be written, whatever mark stands behind them (what []byte(s) makes, or append): append, store, read, string: plain lemmas; conditions: the new length fits. -/
import Derived.Test.YthadapbekmmgpaaDW
import Derived.ArgAppend
set_option linter.unusedVariables false
set_option linter.unusedSimpArgs false
namespace Go.Proofs.Ythadapbekmmgpaa.XOrow
open Go.RowKit Go.Proofs.YthadapbekmmgpaaW.PrintWords Go.Proofs.YthadapbekmmgpaaW.PrintLast Go.Proofs.YthadapbekmmgpaaW.PrintMore

theorem blk_setF {w : World} {g : Nat} {t : TypeId} {cs : Array Value} {fr : Nat × Nat} (h : w.heap[g]? = some (.cells cs t fr)) (i : Nat) (u : Value) : (w.setCell ⟨g, i, none⟩ u).heap[g]? = some (.cells (cs.setIfInBounds i u) t fr) := by
  simp [World.setCell, Array.getElem?_modify, h]
/-- Elements of one cell. -/
structure ORow (w : World) (base : Nat) (e : TypeId) (v : Value) (xs : List Value) : Prop where mk ::
  (out : (v = .slice none 0 0 ∧ xs = []) ∨ ∃ (g cap : Nat) (cur : Array Value) (lo hi : Nat), v = .slice (some ⟨g, 0, none⟩) xs.length cap ∧ base ≤ g ∧ w.heap[g]? = some (.cells cur e (lo, hi)) ∧ xs.length ≤ cap ∧ cap ≤ maxLen ∧ cur.size = cap ∧ cur.toList.take xs.length = xs ∧ cap ≤ lo + (if hi ≤ lo then cap else 0))

theorem unfrozen {w : World} {g : Nat} {cur : Array Value} {e : TypeId} {lo hi cap : Nat} (h : w.heap[g]? = some (.cells cur e (lo, hi))) (hc : cap ≤ lo + (if hi ≤ lo then cap else 0)) (j : Nat) (hj : j < cap) : w.frozen? ⟨g, j, none⟩ = false := by
  simp only [World.frozen?, h]
  by_cases hh : hi ≤ lo
  · by_cases h1 : lo ≤ j
    · have h2 : ¬ j < hi := by omega
      simp [h2]
    · simp [h1]
  · rw [if_neg hh] at hc
    have h1 : ¬ lo ≤ j := by omega
    simp [h1]
section
variable {w w1 : World} {base : Nat} {e : TypeId} {v : Value} {xs : List Value}
theorem ORow.move (h : ORow w base e v xs) (hb : ∀ k, base ≤ k → k < w.heap.size → w1.heap[k]? = w.heap[k]?) : ORow w1 base e v xs := by
  rcases h.out with h | ⟨g, cap, cur, lo, hi, rfl, hg, hh, r⟩
  · exact ⟨.inl h⟩
  · exact ⟨.inr ⟨g, cap, cur, lo, hi, rfl, hg, (hb g hg (blk_lt hh)).trans hh, r⟩⟩
theorem ORow.below (h : ORow w base e v xs) (hb : Below w.heap.size w w1) : ORow w1 base e v xs := h.move (fun k _ hk => hb.block k hk)
theorem ORow.alloc (h : ORow w base e v xs) (o : Obj) : ORow (w.alloc o) base e v xs := h.below (below_alloc (Below.refl _ _) o)
theorem ORow.drewN (h : ORow w base e v xs) (n : Nat) : ORow (w.drewN n) base e v xs := h.move (fun _ _ _ => rfl)
theorem ORow.max (h : ORow w base e v xs) : xs.length ≤ maxLen := by
  rcases h.out with ⟨rfl, rfl⟩ | ⟨g, cap, cur, lo, hi, rfl, _, _, h1, h2, _⟩
  · simp
  · omega
theorem ORow.cell {g c : Nat} {A : Addr} {n : Nat} (h : ORow w base e (.slice (some A) n c) xs) (j : Nat) (u : Value) (hu : xs[j]? = some u) : w.cell? (A.add j) = some u := by
  rcases h.out with ⟨h0, rfl⟩ | ⟨g, cap, cur, lo, hi, hv, _, hh, _, _, _, ht, _⟩
  · simp at hu
  · injection hv with h1 _ _
    obtain rfl := Option.some.inj h1
    rw [add_plain, cell_of_row w g j cur e (lo, hi) hh, ← Array.getElem?_toList]
    have hj := (List.getElem?_eq_some_iff.1 hu).1
    rw [← ht, List.getElem?_take, if_pos hj] at hu
    exact hu
/-- A string made a slice of bytes, written on. -/
theorem ORow.conv (W : World) (e : TypeId) (s : ByteArray) (hs : s.size ≤ 9223372036854775807) : ORow (Lib.bytesWorld W e s) W.heap.size e (.slice (some ⟨W.heap.size, 0, none⟩) s.size (grownCap W s.size 0 e)) (nums .u8 (bytesOf s)) := by
  have hl : (nums .u8 (bytesOf s)).length = s.size := by rw [nums_length, bytesOf_length]
  have hg := grownCap_ge W s.size 0 e
  have hsz : (Lib.bytesCells W e s).size = grownCap W s.size 0 e := by
    unfold Lib.bytesCells
    rw [Array.size_append, Array.size_map, Array.size_replicate]
    show s.size + _ = _
    omega
  refine ⟨.inr ⟨W.heap.size, grownCap W s.size 0 e, Lib.bytesCells W e s, (Lib.bytesCells W e s).size, (Lib.bytesCells W e s).size + 1, by rw [hl], Nat.le_refl _, Lib.bytesWorld_at_new W e s, by rw [hl]; exact hg, grownCap_le_maxLen W _ _ _ (by unfold maxLen; omega), hsz, ?_, by rw [hsz]; omega⟩⟩
  unfold Lib.bytesCells
  rw [hl, Array.toList_append, Array.toList_map, List.take_append_of_le_length (by rw [List.length_map, Array.length_toList]; exact Nat.le_refl _), List.take_of_length_le (by rw [List.length_map, Array.length_toList]; exact Nat.le_refl _)]
  simp [nums, bytesOf]
/-- A store into an element. -/
theorem ORow.store {g n c : Nat} (h : ORow w base e (.slice (some ⟨g, 0, none⟩) n c) xs) (j : Nat) (hj : j < n) (u : Value) : ORow (w.setCell ⟨g, j, none⟩ u) base e (.slice (some ⟨g, 0, none⟩) n c) (xs.set j u) ∧ w.frozen? ⟨g, j, none⟩ = false ∧ (w.cell? ⟨g, j, none⟩).isSome = true ∧ base ≤ g := by
  rcases h.out with ⟨h0, rfl⟩ | ⟨g', cap, cur, lo, hi, hv, hg, hh, hn, hm, hs, ht, hf⟩
  · cases h0
  · injection hv with h1 h2 h3
    injection h1 with h1
    injection h1 with h1
    subst h1; subst h2; subst h3
    refine ⟨⟨.inr ⟨g, c, cur.setIfInBounds j u, lo, hi, by rw [List.length_set], hg, blk_setF hh j u, by rw [List.length_set]; exact hn, hm, by simpa using hs, ?_, hf⟩⟩, unfrozen hh hf j (by omega), ?_, hg⟩
    · rw [List.length_set, Array.toList_setIfInBounds, List.take_set, ht]
    · rw [cell_of_row w g j cur e (lo, hi) hh]
      simp
      omega
end
end Go.Proofs.Ythadapbekmmgpaa.XOrow
