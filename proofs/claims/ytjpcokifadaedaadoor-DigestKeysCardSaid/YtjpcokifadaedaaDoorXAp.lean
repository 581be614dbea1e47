/- Bytes that a conversion of a string made, or an empty literal, with single bytes appended: no condition. Own text. -/
import Derived.Test.YtjpcokifadaedaaDoorXByR
import Derived.Test.YtjpcokifadaedaaDoorXBox
import Derived.Laws.AppendOwn
import Derived.Lib.AppendStr
set_option linter.unusedVariables false
set_option linter.unusedSimpArgs false
namespace Go.Proofs.YtjpcokifadaedaaDoor.XAp
open Go.RowKit Go.Proofs.YtjpcokifadaedaaDoorW.PrintWords Go.Proofs.YtjpcokifadaedaaDoorW.PrintLast Go.Proofs.YtjpcokifadaedaaDoorW.PrintMore
/-- A string with one byte more. -/
def pushB (s : ByteArray) (v : Int) : ByteArray := ⟨s.data.push (UInt8.ofNat v.toNat)⟩
theorem size_pushB (s : ByteArray) (v : Int) : (pushB s v).size = s.size + 1 := by
  show (s.data.push _).size = s.data.size + 1
  exact Array.size_push _
theorem cells_pushB (s : ByteArray) (v : Int) (hv : 0 ≤ v ∧ v < 256) : Lib.strCells (pushB s v) = Lib.strCells s ++ [.int .u8 v] := by
  simp [Lib.strCells, pushB]
  rw [show max v 0 % 256 = v by omega]
/-- The slice v holds the bytes of s, in a block from B on; writes behind its end are let. -/
structure BRow (e : TypeId) (W : World) (B : Nat) (v : Value) (s : ByteArray) : Prop where
  ex : ∃ (g cap : Nat) (cur : Array Value) (fz : Nat × Nat), v = .slice (some ⟨g, 0, none⟩) s.size cap ∧ B ≤ g ∧ W.heap[g]? = some (.cells cur e fz) ∧ s.size ≤ cap ∧ cap ≤ maxLen ∧ cur.size = cap ∧ cur.toList.take s.size = Lib.strCells s ∧ (fz.2 = 0 ∨ cap ≤ fz.1)
variable {e : TypeId} {W W' : World} {B : Nat} {v : Value} {s : ByteArray} {P : Program}
theorem BRow.new (W : World) (e : TypeId) (s : ByteArray) (h : s.size ≤ 140737488355328) : BRow e (Lib.bytesWorld W e s) W.heap.size (.slice (some ⟨W.heap.size, 0, none⟩) s.size (grownCap W s.size 0 e)) s := by
  have hge := grownCap_ge W s.size 0 e
  have hm := grownCap_le_maxLen W s.size 0 e (by simp only [maxLen]; omega)
  have hsz : (Lib.bytesCells W e s).size = grownCap W s.size 0 e := by
    have : s.data.size = s.size := rfl
    simp [Lib.bytesCells]
    omega
  refine ⟨W.heap.size, _, _, _, rfl, Nat.le_refl _, Lib.bytesWorld_at_new W e s, hge, hm, hsz, ?_, .inr (Nat.le_of_eq hsz.symm)⟩
  have hl : (Lib.strCells s).length = s.size := Lib.strCells_length s
  rw [show (Lib.bytesCells W e s).toList = Lib.strCells s ++ List.replicate (grownCap W s.size 0 e - s.size) (.int .u8 0) by simp [Lib.bytesCells, Lib.strCells], ← hl]
  exact List.take_left
theorem BRow.empty (g : Nat) (hB : B ≤ g) (h : W.heap[g]? = some (.cells #[] e (0, 0))) : BRow e W B (.slice (some ⟨g, 0, none⟩) 0 0) ⟨#[]⟩ :=
  ⟨g, 0, #[], (0, 0), rfl, hB, h, Nat.le_refl _, Nat.zero_le _, rfl, rfl, .inl rfl⟩
theorem BRow.below (h : BRow e W B v s) (hb : Below W.heap.size W W') : BRow e W' B v s := by
  obtain ⟨g, cap, cur, fz, h1, h2, h3, h4⟩ := h.ex
  exact ⟨g, cap, cur, fz, h1, h2, blk_below h3 hb, h4⟩
theorem BRow.kept (h : BRow e W B v s) {B' : Nat} (hlt : ∀ g cap, v = .slice (some ⟨g, 0, none⟩) s.size cap → g < B') (hb : Below B' W W') : BRow e W' B v s := by
  obtain ⟨g, cap, cur, fz, h1, h2, h3, h4⟩ := h.ex
  exact ⟨g, cap, cur, fz, h1, h2, (hb.block g (hlt g cap h1)).trans h3, h4⟩
theorem BRow.is (h : BRow e W B v s) : ∃ g cap, v = .slice (some ⟨g, 0, none⟩) s.size cap ∧ B ≤ g ∧ g < W.heap.size := by
  obtain ⟨g, cap, cur, fz, h1, h2, h3, h4⟩ := h.ex
  exact ⟨g, cap, h1, h2, blk_lt h3⟩
theorem BRow.cell {g n cap : Nat} (h : BRow e W B (.slice (some ⟨g, 0, none⟩) n cap) s) (i : Nat) (hi : i < s.size) : W.cell? ⟨g, i, none⟩ = some (.int .u8 ((bytesOf s).getD i 0)) := by
  obtain ⟨g', cap', cur, fz, h1, h2, h3, h4, h5, h6, h7, h8⟩ := h.ex
  obtain rfl : g = g' := by injection h1 with h1 _ _; injection h1 with h1; injection h1
  have hl : i < s.data.toList.length := by rw [data_length]; exact hi
  have ht : (cur.toList.take s.size)[i]? = cur.toList[i]? := List.getElem?_take_of_lt hi
  rw [cell_of_row W g i cur e fz h3, ← Array.getElem?_toList, ← ht, h7, Lib.strCells, List.getElem?_map, List.getElem?_eq_getElem hl]
  simp [bytesOf, List.getD_eq_getElem?_getD, List.getElem?_eq_getElem hl]
theorem BRow.text {g n cap : Nat} (h : BRow e W B (.slice (some ⟨g, 0, none⟩) n cap) s) (src dst : TypeId) (hs : P.underlying src = some (.slice e)) (he : P.underlying e = some (.int .u8)) (hd : P.underlying dst = some .string) :
    (convert src dst (.slice (some ⟨g, 0, none⟩) n cap)).run P W = .ok (.string s) W := by
  have hn : n = s.size := by
    obtain ⟨g', cap', cur, fz, h1, _⟩ := h.ex
    injection h1
  subst hn
  have := run_convert_bytes_arg (P := P) W src e hs he g 0 s.size cap (bytesOf s) (bytesOf_length s) (fun i hi => by rw [Nat.zero_add]; exact h.cell i hi) dst hd
  rw [this, XByR.str_bytes]
theorem store1 (g o : Nat) (c : Value) (old : Value) (hc : W.cell? ⟨g, o, none⟩ = some old) (hf : W.frozen? ⟨g, o, none⟩ = false) (h1 : c.oneCell' = true) :
    (storeCells ⟨g, o, none⟩ [c] 0).run P W = .ok () (W.setCell ⟨g, o, none⟩ c) := by
  have hadd : (⟨g, o, none⟩ : Addr).add 0 = ⟨g, o, none⟩ := by unfold Addr.add; split <;> simp_all
  have hst : (store ((⟨g, o, none⟩ : Addr).add 0) c).run P W = .ok () (W.setCell ⟨g, o, none⟩ c) := by
    rw [hadd, run_store P W _ c _ h1, hc]
    simp [hf]
  simp only [storeCells, Sem.run_bind, hst, Result.andThen_ok]
  rfl
/-- One byte appended. -/
theorem app1K (h : BRow e W B v s) (t ty : TypeId) (i : TypeInfo) (ht : P.underlying t = some (.slice e)) (hi : P.info? e = some i) (hz : i.zero = some (.int .u8 0)) (hs1 : i.size = 1) (hby : i.bytes = 1)
    (hh : Nat) (c : Int) (hb : W.heap[hh]? = some (.cells #[.int .u8 c] e (0, 0))) (hc : 0 ≤ c ∧ c < 256) (hsz : s.size + 1 ≤ 140737488355328) (hB : B ≤ W.heap.size) :
    ∃ v' W', (Builtin.append_ #[t, t] ty #[v, .slice (some ⟨hh, 0, none⟩) 1 1]).run P W = .ok v' W' ∧ BRow e W' B v' (pushB s c) ∧ Below B W W' ∧ (∀ k, k < W.heap.size → (∀ n c, v ≠ .slice (some ⟨k, 0, none⟩) n c) → W'.heap[k]? = W.heap[k]?) ∧ (∀ g' n c, v' = .slice (some ⟨g', 0, none⟩) n c → (∃ n c, v = .slice (some ⟨g', 0, none⟩) n c) ∨ W.heap.size ≤ g') := by
  obtain ⟨g, cap, cur, fz, rfl, hg, hcur, hle, hcm, hcs, htake, hfz⟩ := h.ex
  have hnews : ∀ j u, [Value.int .u8 c][j]? = some u → W.cell? ((⟨hh, 0, none⟩ : Addr).add j) = some u := fun j u hu => by
    match j, hu with
    | 0, hu =>
      obtain rfl := Option.some.inj hu
      rw [show (⟨hh, 0, none⟩ : Addr).add 0 = ⟨hh, 0, none⟩ by unfold Addr.add; split <;> simp_all]
      exact (blk_cell hb 0).trans rfl
  have h1 : ∀ u ∈ [Value.int .u8 c], u.oneCell' = true := fun u hu => by obtain rfl := List.mem_singleton.1 hu; rfl
  by_cases hroom : s.size + 1 ≤ cap
  · have hlt : s.size < cur.size := by omega
    have hcell : W.cell? ⟨g, s.size, none⟩ = some cur[s.size] := by rw [cell_of_row W g _ cur e fz hcur]; exact Array.getElem?_eq_getElem hlt
    have hfro : W.frozen? ⟨g, s.size, none⟩ = false := by
      simp only [World.frozen?, hcur, Bool.and_eq_false_iff, decide_eq_false_iff_not]
      rcases hfz with hfz | hfz
      · right; omega
      · left; omega
    have hst := store1 (P := P) g s.size (.int .u8 c) _ hcell hfro rfl
    have hf := run_firstCells_some (P := P) W i.size 1 (⟨hh, 0, none⟩ : Addr) 1 1 [.int .u8 c] (by rw [hs1]; rfl) hnews
    refine ⟨.slice (some ⟨g, 0, none⟩) (s.size + 1) cap, W.setCell ⟨g, s.size, none⟩ (.int .u8 c), ?_, ⟨g, cap, cur.setIfInBounds s.size (.int .u8 c), fz, by rw [size_pushB], hg, ?_, by rw [size_pushB]; exact hroom, hcm, by rw [Array.size_setIfInBounds]; exact hcs, ?_, hfz⟩, (Below.refl B W).setCell hg _, fun k _ hk => Below.heap_setCell _ _ _ _ (fun e => hk s.size cap (by rw [e])), fun g' n c he => .inl ⟨s.size, cap, by injection he with he _ _; rw [he]⟩⟩
    · rw [hs1] at hf
      simp [Builtin.append_, run_underlying ht, sizeOf, typeInfo, hi, hs1, Builtin.lenOf, hroom, hf, Addr.add_lit, hst]
    · simp [World.setCell, Array.getElem?_modify, hcur]
    · rw [size_pushB, cells_pushB s c hc, Array.toList_setIfInBounds, List.take_succ_eq_append_getElem (by rw [List.length_set]; exact hlt)]
      rw [List.take_set_of_le (Nat.le_refl _), htake, List.getElem_set_self]
  · have holds : ∀ j u, (Lib.strCells s)[j]? = some u → W.cell? ((⟨g, 0, none⟩ : Addr).add j) = some u := fun j u hu => by
      have hadd : (⟨g, 0, none⟩ : Addr).add j = ⟨g, j, none⟩ := by unfold Addr.add; split <;> simp_all
      rw [hadd, cell_of_row W g j cur e fz hcur]
      rw [← htake, List.getElem?_take] at hu
      split at hu
      · simpa using hu
      · cases hu
    have hmx : s.size + 1 ≤ maxLen := by simp only [maxLen]; omega
    have hge := grownCap_ge W (s.size + 1) cap e
    have hcm2 := grownCap_le_maxLen W (s.size + 1) cap e hmx
    have hr := run_append_grow (P := P) W t ty e i (.int .u8 0) ht hi hz ⟨g, 0, none⟩ s.size cap (Lib.strCells s) (by rw [hs1, Nat.mul_one]; exact Lib.strCells_length s) holds ⟨hh, 0, none⟩ 1 1 [.int .u8 c] (by rw [hs1]; rfl) hnews (by omega) (by omega) (growslice_fits (by omega) (by rw [hby]; omega))
    refine ⟨_, _, hr, ⟨W.heap.size, _, _, (0, 0), by rw [size_pushB], hB, heap_alloc_new W.drew _, by rw [size_pushB]; exact hge, hcm2, ?_, ?_, .inl rfl⟩, ?_, fun k hk _ => heap_alloc_old W.drew _ hk, fun g' n c he => .inr (by injection he with he _ _; injection he with he; injection he with he; rw [← he]; exact Nat.le_refl _)⟩
    · have hl := Lib.strCells_length s
      have hz1 : (Value.int IntKind.u8 0).cells.size = 1 := rfl
      simp only [Array.size_append, List.size_toArray, size_zeroCells, hz1, hl, List.length_singleton]
      omega
    · have hl := Lib.strCells_length s
      rw [cells_pushB s c hc]
      simp only [Array.toList_append, List.append_assoc]
      rw [← List.append_assoc, size_pushB, show s.size + 1 = (Lib.strCells s ++ [Value.int .u8 c]).length by rw [List.length_append, hl]; rfl]
      exact List.take_left
    · exact ⟨rfl, rfl, rfl, by simp, fun k hk => heap_alloc_old W.drew _ (Nat.lt_of_lt_of_le hk hB)⟩
theorem app1 (h : BRow e W B v s) (t ty : TypeId) (i : TypeInfo) (ht : P.underlying t = some (.slice e)) (hi : P.info? e = some i) (hz : i.zero = some (.int .u8 0)) (hs1 : i.size = 1) (hby : i.bytes = 1)
    (hh : Nat) (c : Int) (hb : W.heap[hh]? = some (.cells #[.int .u8 c] e (0, 0))) (hc : 0 ≤ c ∧ c < 256) (hsz : s.size + 1 ≤ 140737488355328) (hB : B ≤ W.heap.size) :
    ∃ v' W', (Builtin.append_ #[t, t] ty #[v, .slice (some ⟨hh, 0, none⟩) 1 1]).run P W = .ok v' W' ∧ BRow e W' B v' (pushB s c) ∧ Below B W W' := by
  obtain ⟨v', W', h1, h2, h3, _⟩ := app1K (P := P) h t ty i ht hi hz hs1 hby hh c hb hc hsz hB
  exact ⟨v', W', h1, h2, h3⟩
/-- The same, told of a row whose other blocks stay. -/
theorem BRow.same {g n cap : Nat} (h : BRow e W B (.slice (some ⟨g, 0, none⟩) n cap) s) (hb : W'.heap[g]? = W.heap[g]?) : BRow e W' B (.slice (some ⟨g, 0, none⟩) n cap) s := by
  obtain ⟨g', cap', cur, fz, h1, h2, h3, h4⟩ := h.ex
  obtain rfl : g = g' := by injection h1 with h1 _ _; injection h1 with h1; injection h1
  exact ⟨g, cap', cur, fz, h1, h2, hb.trans h3, h4⟩
theorem gate_append {oi : Oper} {ops : Array Oper} {Q : Exit → Act → World → Prop} {rest : List Oper} {a : Act} {t : TypeId} {x y : Operand} (_ho : oi.op = .call { callee := .builtin .append, args := #[x, y], argTypes := #[t, t] }) (h : wpList P ops Q (oi :: rest) a W) : wpList P ops Q (oi :: rest) a W := h
/-- The operation. -/
theorem appL_ {oi : Oper} {ops : Array Oper} {Q : Exit → Act → World → Prop} {rest : List Oper} {a : Act} (N : Tmp) (hd : oi.dst = some N) (hg : oi.guard = none) (t : TypeId) {x y : Operand} (hop : oi.op = .call { callee := .builtin .append, args := #[x, y], argTypes := #[t, t] })
    (hh : Nat) (c : Int) (hx : a.eval x = v) (hy : a.eval y = .slice (some ⟨hh, 0, none⟩) 1 1) (h : BRow e W B v s) (i : TypeInfo) (ht : P.underlying t = some (.slice e)) (hi : P.info? e = some i) (hz : i.zero = some (.int .u8 0)) (hs1 : i.size = 1) (hby : i.bytes = 1)
    (hb : W.heap[hh]? = some (.cells #[.int .u8 c] e (0, 0))) (hc : 0 ≤ c ∧ c < 256) (hsz : s.size + 1 ≤ 140737488355328) (hB : B ≤ W.heap.size)
    (hK : ∀ v' W', BRow e W' B v' (pushB s c) → Below B W W' → wpList P ops Q rest (a.put (some N) v') W') : wpList P ops Q (oi :: rest) a W := by
  obtain ⟨v', W', hr, hrow, hbl⟩ := app1 (P := P) h t oi.type i ht hi hz hs1 hby hh c hb hc hsz hB
  refine Kd.event_run hg (v := v') (w1 := W') ?_ (by rw [hd]; exact hK v' W' hrow hbl)
  unfold execOp
  simp only [hop, resolve, invoke, builtin, Sem.run_bind, Sem.run_pure, Result.andThen_ok, List.map_toArray, List.map_cons, List.map_nil, hx, hy, hr]
/-- The operation, the other blocks kept. -/
theorem appK_ {oi : Oper} {ops : Array Oper} {Q : Exit → Act → World → Prop} {rest : List Oper} {a : Act} (N : Tmp) (hd : oi.dst = some N) (hg : oi.guard = none) (t : TypeId) {x y : Operand} (hop : oi.op = .call { callee := .builtin .append, args := #[x, y], argTypes := #[t, t] })
    (g cap hh : Nat) (c : Int) (hx : a.eval x = .slice (some ⟨g, 0, none⟩) s.size cap) (hy : a.eval y = .slice (some ⟨hh, 0, none⟩) 1 1) (h : BRow e W B (.slice (some ⟨g, 0, none⟩) s.size cap) s) (i : TypeInfo) (ht : P.underlying t = some (.slice e)) (hi : P.info? e = some i) (hz : i.zero = some (.int .u8 0)) (hs1 : i.size = 1) (hby : i.bytes = 1)
    (hb : W.heap[hh]? = some (.cells #[.int .u8 c] e (0, 0))) (hc : 0 ≤ c ∧ c < 256) (hsz : s.size + 1 ≤ 140737488355328) (hB : B ≤ W.heap.size)
    (hK : ∀ g' cap' W', BRow e W' B (.slice (some ⟨g', 0, none⟩) (pushB s c).size cap') (pushB s c) → Below B W W' → (∀ k, k < W.heap.size → k ≠ g → W'.heap[k]? = W.heap[k]?) → (g' = g ∨ W.heap.size ≤ g') → W.heap.size ≤ W'.heap.size → wpList P ops Q rest (a.put (some N) (.slice (some ⟨g', 0, none⟩) (pushB s c).size cap')) W') : wpList P ops Q (oi :: rest) a W := by
  obtain ⟨v', W', hr, hrow, hbl, hk, hg'⟩ := app1K (P := P) h t oi.type i ht hi hz hs1 hby hh c hb hc hsz hB
  obtain ⟨g', cap', rfl, _, _⟩ := hrow.is
  have hkk : ∀ k, k < W.heap.size → k ≠ g → W'.heap[k]? = W.heap[k]? := fun k h1 h2 => hk k h1 (fun n c e => h2 (by injection e with e _ _; injection e with e; injection e with e; exact e.symm))
  have hgg : g' = g ∨ W.heap.size ≤ g' := by
    rcases hg' g' _ _ rfl with ⟨n, c, h⟩ | h
    · left; injection h with h _ _; injection h with h; injection h with h; exact h.symm
    · exact .inr h
  refine Kd.event_run hg (v := .slice (some ⟨g', 0, none⟩) (pushB s c).size cap') (w1 := W') ?_ (by rw [hd]; exact hK g' cap' W' hrow hbl hkk hgg hbl.size)
  unfold execOp
  simp only [hop, resolve, invoke, builtin, Sem.run_bind, Sem.run_pure, Result.andThen_ok, List.map_toArray, List.map_cons, List.map_nil, hx, hy, hr]
end Go.Proofs.YtjpcokifadaedaaDoor.XAp
