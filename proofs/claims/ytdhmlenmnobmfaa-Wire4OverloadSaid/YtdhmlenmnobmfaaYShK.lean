/- strings.Builder's contracts at this dump that keep the other blocks, and Write at a fresh builder: the bounds typed are their conditions.  By this session's own program (wip/tools/bldk.py). -/
import Derived.Test.YtdhmlenmnobmfaaYSh
import Derived.Shelf.Strings.BuilderK
import Derived.Laws.AppendOwn
import Derived.WalkKit
set_option linter.unusedVariables false
namespace Go.Proofs.Ytdhmlenmnobmfaa.BldK
open Go.Shelf Go.RowKit Go.Proofs
/-- A builder that has been written, its bytes' row perhaps frozen. -/
structure Is (B b : Nat) (s : ByteArray) (w : World) : Prop where
  out : Lib.BuilderAtF 51 5 B b (.pointer (some ⟨b, 0, none⟩)) (Lib.strCells s) w
theorem cells_append (s t : ByteArray) : Lib.strCells s ++ Lib.strCells t = Lib.strCells (s ++ t) := by
  simp [Lib.strCells, ByteArray.data_append]
theorem Is.lt {B b : Nat} {s : ByteArray} {w : World} (h : Is B b s w) : b < w.heap.size := by
  obtain ⟨_, v, hb, _⟩ := h.out
  rcases Nat.lt_or_ge b w.heap.size with h' | h'
  · exact h'
  · simp [Array.getElem?_eq_none h'] at hb
theorem Is.ge {B b : Nat} {s : ByteArray} {w : World} (h : Is B b s w) : B ≤ b := h.out.1
theorem Is.grown {B b : Nat} {s : ByteArray} {w w' : World} (h : Is B b s w) (hb : Below w.heap.size w w') : Is B b s w' := by
  obtain ⟨hB, v, hbk, hown, hne⟩ := h.out
  have hlt := h.lt
  refine ⟨hB, v, (hb.block b hlt).trans hbk, ?_, hne⟩
  refine ⟨hown.1, ?_⟩
  rcases hown.2 with hv | ⟨g, cap, cur, fz, hv, hbg, hg, hr⟩
  · exact .inl hv
  · have hl : g < w.heap.size := by
      rcases Nat.lt_or_ge g w.heap.size with h' | h'
      · exact h'
      · simp [Array.getElem?_eq_none h'] at hg
    exact .inr ⟨g, cap, cur, fz, hv, hbg, (hb.block g hl).trans hg, hr⟩
theorem bldk_write (B b : Nat) (s t : ByteArray) (w : World) (h : Is B b s w) (hl : s.size + t.size ≤ 140737488355328) (hB : B ≤ w.heap.size) :
    Calls Try.prog 24 #[.pointer (some ⟨b, 0, none⟩), .string t] w fun e w' => e = .returned (.tuple #[.int .i64 t.size, .nilIface]) ∧ Is B b (s ++ t) w' ∧ Below B w w' ∧ Lib.OthersKept 5 (some b) w w' :=
  (Any.Builder_WriteString_k Try.bl166 Try.bx166 B b (Lib.strCells s) t w (.inr h.out) (by rw [Lib.strCells_length]; exact hl) hB).mono fun _ _ ⟨h1, h2, h3, h4⟩ => ⟨h1, ⟨by rw [← cells_append]; exact h2⟩, h3, h4⟩
theorem bldk_string (B b : Nat) (s : ByteArray) (w : World) (h : Is B b s w) (h0 : s.data.toList ≠ []) :
    Calls Try.prog 28 #[.pointer (some ⟨b, 0, none⟩)] w fun e w' => e = .returned (.string s) ∧ Below B w w' :=
  (Any.Builder_String_k Try.bl169 Try.bx169 B b s.data.toList w (.inr h.out) h0).mono fun _ _ ⟨h1, _, h3, _⟩ => ⟨h1, h3⟩
theorem bldk_len (B b : Nat) (s : ByteArray) (w : World) (h : Is B b s w) :
    Calls Try.prog 27 #[.pointer (some ⟨b, 0, none⟩)] w fun e w' => e = .returned (.int .i64 s.size) ∧ w' = w :=
  (Any.Builder_Len_f Try.bl170 B b (Lib.strCells s) w (.inr h.out)).mono fun _ _ ⟨h1, h2⟩ => ⟨by rw [h1, Lib.strCells_length], h2⟩
set_option maxHeartbeats 2000000 in
set_option maxRecDepth 100000 in
/-- Write at a fresh builder: the bytes of another block. -/
theorem bldk_bytes (B b g m c : Nat) (s : ByteArray) (w : World) (hB : B ≤ b) (hbk0 : w.heap[b]? = some (.cells #[.pointer none, .slice none 0 0] 51 (0, 0))) (hgb : g ≠ b) (hm : s.size = m) (hm2 : m ≤ 140737488355328)
    (hnews : ∀ j u, (Lib.strCells s)[j]? = some u → w.cell? ((⟨g, 0, none⟩ : Addr).add j) = some u) (hBw : B ≤ w.heap.size) :
    Calls Try.prog 23 #[.pointer (some ⟨b, 0, none⟩), .slice (some ⟨g, 0, none⟩) m c] w fun e w' => e = .returned (.tuple #[.int .i64 m, .nilIface]) ∧ Is B b s w' ∧ Below B w w' := by
  have hib := Try.bx166.infoByte
  have hne5 : (51 : Nat) ≠ 5 := by decide
  have h0 : w.cell? ⟨b, 0, none⟩ = some (.pointer none) := by rw [Lib.cell_of_heap hbk0]; rfl
  have hsh : w.shape? b = some (51, 2) := by simp [World.shape?, hbk0]
  have hfz : w.frozen? ⟨b, 0, none⟩ = false := Lib.frozen_of_heap hbk0 0
  have cC : Calls Try.prog 46 #[.pointer (some ⟨b, 0, none⟩)] w fun e w' => e = .returned (.tuple #[]) ∧ w' = w.setCell ⟨b, 0, none⟩ (.pointer (some ⟨b, 0, none⟩)) :=
    Any.Builder_copyCheck_fresh ({ Try.bl166 with } : Lays.n240 _ Try.bl166_ren) Try.bx166.toX72 b w h0 hsh hfz
  obtain ⟨i0, hi, hz0, hz1, hz2⟩ := info_parts hib
  have hbk : (w.setCell ⟨b, 0, none⟩ (.pointer (some ⟨b, 0, none⟩))).heap[b]? = some (.cells #[.pointer (some ⟨b, 0, none⟩), .slice none 0 0] 51 (0, 0)) := by
    simp [World.setCell, Array.getElem?_modify, hbk0]
  have hnews1 : ∀ j u, (Lib.strCells s)[j]? = some u → (w.setCell ⟨b, 0, none⟩ (.pointer (some ⟨b, 0, none⟩))).cell? ((⟨g, 0, none⟩ : Addr).add j) = some u := fun j u hj => by
    rw [World.cell?_setCell_other _ _ _ _ (by intro h; have h' := congrArg Addr.block h; simp only [Addr.add] at h'; split at h' <;> first | exact hgb h' | exact hgb h'.symm)]; exact hnews j u hj
  have hb1 : Below B w (w.setCell ⟨b, 0, none⟩ (.pointer (some ⟨b, 0, none⟩))) := (Below.refl B w).setCell (p := ⟨b, 0, none⟩) hB _
  generalize hw1 : w.setCell ⟨b, 0, none⟩ (.pointer (some ⟨b, 0, none⟩)) = w1 at cC hbk hnews1 hb1
  have hlt : b < w1.heap.size := by
    rcases Nat.lt_or_ge b w1.heap.size with h' | h'
    · exact h'
    · simp [Array.getElem?_eq_none h'] at hbk
  have hown : w1.ownsRow B 5 1 (.slice none 0 0) 0 [] := World.ownsRow_nil _ _ _ _
  clear hnews h0 hsh hfz hbk0 hw1
  go_enter Try.func23, Try.ntmps23
  go_wp2_with (go_at_call 46; refine cC.mono ?_)
  rintro e w' ⟨rfl, hw'⟩
  have hw2 := hw'.symm
  subst hw2
  have c0 : w1.cell? ⟨b, 0, none⟩ = some (.pointer (some ⟨b, 0, none⟩)) := by rw [Lib.cell_of_heap hbk]; rfl
  have c1 : w1.cell? ⟨b, 1, none⟩ = some (.slice none 0 0) := by rw [Lib.cell_of_heap hbk]; rfl
  go_wp2_with (at_builtin; refine wpList_append_own _ rfl _ _ 39 rfl B 5 i0 (.int .u8 0) 1 1 Try.underlying39 hi hz0 hz1 hz2 rfl (by decide) _ _ _ rfl hown ⟨g, 0, none⟩ m c (Lib.strCells s) rfl (by rw [Lib.strCells_length]; omega) hnews1 ?c1 ?c3 ?c4 ?c5 ?_)
  case c1 => intro u hu; obtain ⟨x, _, rfl⟩ := List.mem_map.1 hu; rfl
  case c3 => unfold maxLen; omega
  case c4 => omega
  case c5 => have := hb1.size; omega
  intro v' w2 hown' hgrow _
  have hb2 : w2.heap[b]? = some (.cells #[.pointer (some ⟨b, 0, none⟩), .slice none 0 0] 51 (0, 0)) := by
    rw [hgrow.block b hlt (by simp [Value.ownBlock])]
    exact hbk
  have d0 : w2.cell? ⟨b, 0, none⟩ = some (.pointer (some ⟨b, 0, none⟩)) := by rw [Lib.cell_of_heap hb2]; rfl
  have d1 : w2.cell? ⟨b, 1, none⟩ = some (.slice none 0 0) := by rw [Lib.cell_of_heap hb2]; rfl
  have f1 : w2.frozen? ⟨b, 1, none⟩ = false := Lib.frozen_of_heap hb2 1
  obtain ⟨ao, n', cap, rfl⟩ : ∃ ao n' cap, v' = .slice ao n' cap := by
    rcases hown'.2 with ⟨hv, _⟩ | ⟨g, cap, cur, hv, _⟩
    · exact ⟨_, _, _, hv⟩
    · exact ⟨_, _, _, hv⟩
  go_wp2
  go_ret2
  refine ⟨rfl, ⟨Lib.BuilderAtF.of ?_⟩, ?_⟩
  · exact Lib.BuilderAt.put (T := 51) (e := 5) hB hb2 (bs' := Lib.strCells s) (by simpa [Lib.strCells_length, hm] using hown') hne5
  · exact (hb1.grown hgrow (by have := hb1.size; omega) (fun k hk => (hown.lt k hk).1)).setCell (p := ⟨b, 1, none⟩) hB _
end Go.Proofs.Ytdhmlenmnobmfaa.BldK
