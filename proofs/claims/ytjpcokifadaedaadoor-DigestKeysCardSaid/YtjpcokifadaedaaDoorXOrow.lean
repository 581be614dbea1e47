/- A row of the call's own whose cells can be written, whatever mark stands behind them (what []byte(s) makes, or append): append, store, read, string: plain lemmas; conditions: the new length fits. -/
import Derived.Test.YtjpcokifadaedaaDoorWMore
import Derived.ArgAppend
set_option linter.unusedVariables false
set_option linter.unusedSimpArgs false
namespace Go.Proofs.YtjpcokifadaedaaDoor.XOrow
open Go.RowKit Go.Proofs.YtjpcokifadaedaaDoorW.PrintWords Go.Proofs.YtjpcokifadaedaaDoorW.PrintLast Go.Proofs.YtjpcokifadaedaaDoorW.PrintMore

theorem blk_setF {w : World} {g : Nat} {t : TypeId} {cs : Array Value} {fr : Nat × Nat} (h : w.heap[g]? = some (.cells cs t fr)) (i : Nat) (u : Value) : (w.setCell ⟨g, i, none⟩ u).heap[g]? = some (.cells (cs.setIfInBounds i u) t fr) := by
  simp [World.setCell, Array.getElem?_modify, h]
theorem setCells_rowF {g : Nat} {e : TypeId} {fr : Nat × Nat} : ∀ (vs : List Value) (o : Nat) (w : World) (cur : Array Value), w.heap[g]? = some (.cells cur e fr) → o + vs.length ≤ cur.size →
    ∃ cur', (w.setCells g o vs).heap[g]? = some (.cells cur' e fr) ∧ cur'.size = cur.size ∧ cur'.toList = cur.toList.take o ++ vs ++ cur.toList.drop (o + vs.length)
  | [], o, w, cur, h, _ => ⟨cur, h, rfl, by simp⟩
  | v :: r, o, w, cur, h, hl => by
    have h2 := blk_setF h o v
    simp only [List.length_cons] at hl
    obtain ⟨cur', h3, h4, h5⟩ := setCells_rowF r (o + 1) (w.setCell ⟨g, o, none⟩ v) _ h2 (by simp; omega)
    refine ⟨cur', h3, by rw [h4]; simp, ?_⟩
    rw [h5, Array.toList_setIfInBounds]
    have ho : o < cur.toList.length := by rw [Array.length_toList]; omega
    rw [List.take_set, List.drop_set_of_lt (by omega)]
    simp only [List.length_cons]
    rw [show o + 1 + r.length = o + (r.length + 1) by omega]
    rw [List.take_succ_eq_append_getElem ho, List.set_append_right _ _ (by rw [List.length_take]; omega), List.length_take]
    have hmn : min o cur.size = o := by rw [Array.length_toList] at ho; omega
    simp [hmn]

/-- Elements of one cell. -/
structure ORow (w : World) (base : Nat) (e : TypeId) (v : Value) (xs : List Value) : Prop where mk ::
  (out : (v = .slice none 0 0 ∧ xs = []) ∨ ∃ (g cap : Nat) (cur : Array Value) (lo hi : Nat), v = .slice (some ⟨g, 0, none⟩) xs.length cap ∧ base ≤ g ∧ w.heap[g]? = some (.cells cur e (lo, hi)) ∧ xs.length ≤ cap ∧ cap ≤ maxLen ∧ cur.size = cap ∧ cur.toList.take xs.length = xs ∧ cap ≤ lo + (if hi ≤ lo then cap else 0))

theorem unfrozen {w : World} {g : Nat} {cur : Array Value} {e : TypeId} {lo hi cap : Nat} (h : w.heap[g]? = some (.cells cur e (lo, hi))) (hc : cap ≤ lo + (if hi ≤ lo then cap else 0)) (j : Nat) (hj : j < cap) : w.frozen? ⟨g, j, none⟩ = false := by
  simp only [World.frozen?, h]
  by_cases hh : hi ≤ lo
  · by_cases h1 : lo ≤ j
    · have h2 : ¬ j < hi := by omega
      simp [h2]
    · simp [h1]
  · rw [if_neg hh] at hc
    have h1 : ¬ lo ≤ j := by omega
    simp [h1]
section
variable {w w1 : World} {base : Nat} {e : TypeId} {v : Value} {xs : List Value}
theorem ORow.of_own (h : w.ownsRow base e 1 v xs.length xs) : ORow w base e v xs := by
  rcases h.2 with ⟨rfl, h0⟩ | ⟨g, cap, cur, rfl, hb, hh, hn, hm, hs, ht⟩
  · exact ⟨.inl ⟨rfl, List.eq_nil_of_length_eq_zero h0⟩⟩
  · exact ⟨.inr ⟨g, cap, cur, 0, 0, rfl, hb, hh, hn, hm, by omega, by rwa [Nat.mul_one] at ht, by simp⟩⟩
theorem ORow.move (h : ORow w base e v xs) (hb : ∀ k, base ≤ k → k < w.heap.size → w1.heap[k]? = w.heap[k]?) : ORow w1 base e v xs := by
  rcases h.out with h | ⟨g, cap, cur, lo, hi, rfl, hg, hh, r⟩
  · exact ⟨.inl h⟩
  · exact ⟨.inr ⟨g, cap, cur, lo, hi, rfl, hg, (hb g hg (blk_lt hh)).trans hh, r⟩⟩
theorem ORow.below (h : ORow w base e v xs) (hb : Below w.heap.size w w1) : ORow w1 base e v xs := h.move (fun k _ hk => hb.block k hk)
theorem ORow.alloc (h : ORow w base e v xs) (o : Obj) : ORow (w.alloc o) base e v xs := h.below (below_alloc (Below.refl _ _) o)
theorem ORow.drewN (h : ORow w base e v xs) (n : Nat) : ORow (w.drewN n) base e v xs := h.move (fun _ _ _ => rfl)
theorem ORow.shape (h : ORow w base e v xs) : ∃ A c, v = .slice A xs.length c := by
  rcases h.out with ⟨rfl, rfl⟩ | ⟨g, cap, cur, lo, hi, rfl, _⟩
  · exact ⟨none, 0, rfl⟩
  · exact ⟨_, cap, rfl⟩
theorem ORow.max (h : ORow w base e v xs) : xs.length ≤ maxLen := by
  rcases h.out with ⟨rfl, rfl⟩ | ⟨g, cap, cur, lo, hi, rfl, _, _, h1, h2, _⟩
  · simp
  · omega
theorem ORow.cell {g c : Nat} {A : Addr} {n : Nat} (h : ORow w base e (.slice (some A) n c) xs) (j : Nat) (u : Value) (hu : xs[j]? = some u) : w.cell? (A.add j) = some u := by
  rcases h.out with ⟨h0, rfl⟩ | ⟨g, cap, cur, lo, hi, hv, _, hh, _, _, _, ht, _⟩
  · simp at hu
  · injection hv with h1 _ _
    obtain rfl := Option.some.inj h1
    rw [add_plain, cell_of_row w g j cur e (lo, hi) hh, ← Array.getElem?_toList]
    have hj := (List.getElem?_eq_some_iff.1 hu).1
    rw [← ht, List.getElem?_take, if_pos hj] at hu
    exact hu
/-- A string made a slice of bytes, written on. -/
theorem ORow.conv (W : World) (e : TypeId) (s : ByteArray) (hs : s.size ≤ 9223372036854775807) : ORow (Lib.bytesWorld W e s) W.heap.size e (.slice (some ⟨W.heap.size, 0, none⟩) s.size (grownCap W s.size 0 e)) (nums .u8 (bytesOf s)) := by
  have hl : (nums .u8 (bytesOf s)).length = s.size := by rw [nums_length, bytesOf_length]
  have hg := grownCap_ge W s.size 0 e
  have hsz : (Lib.bytesCells W e s).size = grownCap W s.size 0 e := by
    unfold Lib.bytesCells
    rw [Array.size_append, Array.size_map, Array.size_replicate]
    show s.size + _ = _
    omega
  refine ⟨.inr ⟨W.heap.size, grownCap W s.size 0 e, Lib.bytesCells W e s, (Lib.bytesCells W e s).size, (Lib.bytesCells W e s).size + 1, by rw [hl], Nat.le_refl _, Lib.bytesWorld_at_new W e s, by rw [hl]; exact hg, grownCap_le_maxLen W _ _ _ (by unfold maxLen; omega), hsz, ?_, by rw [hsz]; omega⟩⟩
  unfold Lib.bytesCells
  rw [hl, Array.toList_append, Array.toList_map, List.take_append_of_le_length (by rw [List.length_map, Array.length_toList]; exact Nat.le_refl _), List.take_of_length_le (by rw [List.length_map, Array.length_toList]; exact Nat.le_refl _)]
  simp [nums, bytesOf]
/-- A store into an element. -/
theorem ORow.store {g n c : Nat} (h : ORow w base e (.slice (some ⟨g, 0, none⟩) n c) xs) (j : Nat) (hj : j < n) (u : Value) : ORow (w.setCell ⟨g, j, none⟩ u) base e (.slice (some ⟨g, 0, none⟩) n c) (xs.set j u) ∧ w.frozen? ⟨g, j, none⟩ = false ∧ (w.cell? ⟨g, j, none⟩).isSome = true ∧ base ≤ g := by
  rcases h.out with ⟨h0, rfl⟩ | ⟨g', cap, cur, lo, hi, hv, hg, hh, hn, hm, hs, ht, hf⟩
  · cases h0
  · injection hv with h1 h2 h3
    injection h1 with h1
    injection h1 with h1
    subst h1; subst h2; subst h3
    refine ⟨⟨.inr ⟨g, c, cur.setIfInBounds j u, lo, hi, by rw [List.length_set], hg, blk_setF hh j u, by rw [List.length_set]; exact hn, hm, by simpa using hs, ?_, hf⟩⟩, unfrozen hh hf j (by omega), ?_, hg⟩
    · rw [List.length_set, Array.toList_setIfInBounds, List.take_set, ht]
    · rw [cell_of_row w g j cur e (lo, hi) hh]
      simp
      omega
theorem ORow.str {P : Program} {src dst e' : TypeId} {ys : List Int} (hs : P.underlying src = some (.slice e')) (he : P.underlying e' = some (.int .u8)) (hd : P.underlying dst = some .string)
    (h : ORow w base e v (nums .u8 ys)) : (convert src dst v).run P w = .ok (.string (strOfNums ys)) w := by
  rcases h.out with ⟨rfl, h0⟩ | ⟨g, cap, cur, lo, hi, rfl, hb, hh, hn, hm, hsz, ht, hf⟩
  · obtain rfl : ys = [] := by simpa [nums] using h0
    exact run_convert_bytes_nil w src e' hs he 0 0 dst hd
  · rw [nums_length]
    refine run_convert_bytes_arg w src e' hs he g 0 ys.length cap ys rfl (fun i hi' => ?_) dst hd
    have hi2 : (nums .u8 ys)[i]? = some (.int .u8 (ys.getD i 0)) := by simp [nums, List.getElem?_eq_getElem hi', List.getD_eq_getElem?_getD]
    rw [← ht, List.getElem?_take] at hi2
    split at hi2
    · rw [Nat.zero_add, cell_of_row w g i cur e (lo, hi) hh, ← Array.getElem?_toList]
      exact hi2
    · cases hi2
end
section
variable {P : Program} {ops : Array Oper} {rest : List Oper} {o : Oper} {a : Act} {Q : Exit → Act → World → Prop}
/-- append(v, news...): elements of one cell. -/
theorem append_orow (w0 w : World) (hgd : o.guard = none) (s x : Operand) (t e : TypeId) (ho : o.op = .call { callee := .builtin .append, args := #[s, x], argTypes := #[t, t] })
    (i : TypeInfo) (z : Value) (bytes : Nat) (ht : P.underlying t = some (.slice e)) (hi : P.info? e = some i) (hz : i.zero = some z) (hsize : i.size = 1) (hby : i.bytes = bytes) (hzs : z.cells.size = 1)
    {v : Value} {xs : List Value} {base : Nat} (hs : a.eval s = v) (h : ORow w base e v xs) (hB : Below base w0 w) (hbase : base ≤ w.heap.size)
    (ad : Addr) (m c : Nat) (news : List Value) (hx : a.eval x = .slice (some ad) m c) (hl : news.length = m) (hnews : ∀ j u, news[j]? = some u → w.cell? (ad.add j) = some u) (h1 : ∀ u ∈ news, u.oneCell' = true)
    (h63 : xs.length + m ≤ maxLen) (hbytes : (xs.length + m) * bytes ≤ 140737488355328)
    (hK : ∀ v' w', ORow w' base e v' (xs ++ news) → Below base w0 w' → base ≤ w'.heap.size → wpList P ops Q rest (a.put o.dst v') w') : wpList P ops Q (o :: rest) a w := by
  rcases h.out with ⟨rfl, rfl⟩ | ⟨g, cap, cur, lo, hi', rfl, hg, hh, hn, hm, hsz, htk, hf⟩
  · refine wpList_append_own_at w hgd s x t ho base e i z 1 bytes ht hi hz hsize hby hzs (by omega) (.slice none 0 0) 0 [] hs (own_nil w base e 1) ad m c news hx (by omega) hnews h1 (by simpa using h63) (by simpa using hbytes) hbase ?_
    intro v' w' hown hgr _ _
    refine hK v' w' (ORow.of_own ?_) (hB.grown hgr hbase (by simp [Value.ownBlock])) (Nat.le_trans hbase hgr.size)
    simp only [List.nil_append, Nat.zero_add] at hown ⊢
    rw [hl]; exact hown
  · have hcell : ∀ j u, xs[j]? = some u → w.cell? ⟨g, 0 + j, none⟩ = some u := by
      intro j u hu
      rw [Nat.zero_add, ← add_plain]
      exact ORow.cell (g := 0) h j u hu
    refine wpList_append_arg w hgd s x t ho e i z 1 bytes ht hi hz hsize hby hzs (by omega) g 0 xs.length cap xs hs (by omega) hcell ad m c news hx (by omega) hnews h1 (fun hr j hj => ?_) h63 hbytes (fun hr => ?_) (fun hr v' w' hown hgr => ?_)
    · rw [Nat.zero_add, Nat.mul_one]
      refine ⟨?_, unfrozen hh hf _ (by omega)⟩
      rw [cell_of_row w g _ cur e (lo, hi') hh]
      simp
      omega
    · obtain ⟨s1, s2, s3, s4⟩ := setCells_same g news (0 + xs.length * 1) w
      obtain ⟨cur', c1, c2, c3⟩ := setCells_rowF news (0 + xs.length * 1) w cur hh (by omega)
      refine hK _ _ ⟨.inr ⟨g, cap, cur', lo, hi', by rw [List.length_append, hl], hg, c1, by rw [List.length_append]; omega, hm, by omega, ?_, hf⟩⟩ (hB.trans ⟨s1, s2, s3, by rw [s4]; exact Nat.le_refl _, fun k hk => setCells_far news _ k (by omega)⟩) (by rw [s4]; exact hbase)
      rw [c3, Nat.zero_add, Nat.mul_one, htk, List.take_append_of_le_length (by simp), List.take_of_length_le (by simp)]
    · refine hK v' w' (ORow.of_own ?_) (hB.grown hgr hbase (by simp)) (Nat.le_trans hbase hgr.size)
      have h2 := own_weaken hown hbase
      rw [List.length_append, hl]
      exact h2
end
end Go.Proofs.YtjpcokifadaedaaDoor.XOrow
