/- What is written is read again: plain lemmas. -/
import Derived.Test.YtdhmlenmnobmfaaG0
import Derived.Test.YtdhmlenmnobmfaaG1
import Derived.Test.YtdhmlenmnobmfaaG2
import Derived.Test.YtdhmlenmnobmfaaG3
import Derived.Laws.BitsAllLaws
import Derived.Lib.Strings
import Derived.Test.YtdhmlenmnobmfaaXOpt2
set_option linter.unusedVariables false
set_option linter.unusedSimpArgs false
namespace Go.Proofs.Ytdhmlenmnobmfaa.Opt
open Go.RowKit Go.Proofs.YtdhmlenmnobmfaaW.PrintWords Go.Proofs.YtdhmlenmnobmfaaW.PrintLast Go.Proofs.YtdhmlenmnobmfaaW.PrintMore Go.Proofs.Ytdhmlenmnobmfaa.X Go.Proofs.Ytdhmlenmnobmfaa.Oct

/-- An area's options: as much fuel as there are bytes. -/
def areaA (l : List S47) (bs : List UInt8) : List S47 × Int := areaL bs.length l bs
theorem areaL_one (n : Nat) (l : List S47) (c : UInt8) : areaL (n + 1) l [c] = if c = 255 then (l, 0) else if c = 0 then areaL n l [] else ([], 3) := by
  simp only [areaL]
theorem areaL_two (n : Nat) (l : List S47) (c m : UInt8) (q : List UInt8) : areaL (n + 1) l (c :: m :: q) = if c = 255 then (l, 0) else if c = 0 then areaL n l (m :: q) else if q.length < m.toNat then ([], 3) else if (addS l c.toNat (B (q.take m.toNat))).2 = 0 then areaL n (addS l c.toNat (B (q.take m.toNat))).1 (q.drop m.toNat) else ([], (addS l c.toNat (B (q.take m.toNat))).2) := by
  simp only [areaL]
theorem area_fuel : ∀ (N M : Nat) (l : List S47) (bs : List UInt8), bs.length ≤ N → bs.length ≤ M → areaL N l bs = areaL M l bs := by
  intro N
  induction N with
  | zero =>
    intro M l bs h1 h2
    obtain rfl : bs = [] := List.eq_nil_of_length_eq_zero (by omega)
    rw [areaL_nil, areaL_nil]
  | succ N ih =>
    intro M l bs h1 h2
    cases bs with
    | nil => rw [areaL_nil, areaL_nil]
    | cons c r =>
      cases M with
      | zero => simp at h2
      | succ M =>
        cases r with
        | nil => rw [areaL_one, areaL_one, areaL_nil, areaL_nil]
        | cons m q =>
          simp only [List.length_cons] at h1 h2
          rw [areaL_two, areaL_two]
          split
          · rfl
          · split
            · exact ih M l _ (by simp only [List.length_cons]; omega) (by simp only [List.length_cons]; omega)
            · split
              · rfl
              · split
                · exact ih M _ _ (by rw [List.length_drop]; omega) (by rw [List.length_drop]; omega)
                · rfl
theorem areaA_end (l : List S47) (r : List UInt8) : areaA l (255 :: r) = (l, 0) := by
  unfold areaA
  cases r with
  | nil => rw [List.length_cons, areaL_one, if_pos rfl]
  | cons m q => rw [List.length_cons, areaL_two, if_pos rfl]
theorem areaA_zero (l : List S47) (r : List UInt8) : areaA l (0 :: r) = areaA l r := by
  unfold areaA
  cases r with
  | nil => rw [List.length_cons, areaL_one, if_neg (by decide), if_pos rfl]
  | cons m q => rw [List.length_cons, areaL_two, if_neg (by decide), if_pos rfl]
theorem areaA_opt (l : List S47) (c m : UInt8) (d r : List UInt8) (h0 : c ≠ 0) (h1 : c ≠ 255) (hm : m.toNat = d.length) (he : (addS l c.toNat (B d)).2 = 0) : areaA l (c :: m :: (d ++ r)) = areaA (addS l c.toNat (B d)).1 r := by
  unfold areaA
  rw [List.length_cons, areaL_two, if_neg h1, if_neg h0, if_neg (by rw [List.length_append]; omega), hm, List.take_left', if_pos he, List.drop_left']
  · exact area_fuel _ _ _ _ (by simp only [List.length_cons, List.length_append]; omega) (Nat.le_refl _)
  · rfl
  · rfl
/-- An option's bytes. -/
def pieceB : Nat → UInt8 → List UInt8 → List UInt8
  | 0, c, d => [c, UInt8.ofNat d.length] ++ d
  | n + 1, c, d => if d.length ≤ 255 then [c, UInt8.ofNat d.length] ++ d else [c, 255] ++ d.take 255 ++ pieceB n c (d.drop 255)
theorem piece_b8 : ∀ (n : Nat) (c : UInt8) (d : List UInt8), d.length ≤ 255 * n + 255 → (pieceL n (c.toNat : Int) d).map b8 = pieceB n c d ∧ ∀ x ∈ pieceL n (c.toNat : Int) d, 0 ≤ x ∧ x < 256 := by
  intro n
  have hc : ∀ c : UInt8, (c.toNat : Int) < 256 := fun c => by have := c.toNat_lt; omega
  have hl : ∀ k : Nat, k ≤ 255 → b8 (k : Int) = UInt8.ofNat k := fun k hk => by
    unfold b8; rw [show ((k : Int) % 256).toNat = k by omega]
  have hd : ∀ d : List UInt8, (d.map (fun x => (x.toNat : Int))).map b8 = d := fun d => by
    rw [List.map_map]
    exact (List.map_congr_left (fun x _ => b8_byte x)).trans (List.map_id d)
  have hb : ∀ d : List UInt8, ∀ x ∈ d.map (fun x => (x.toNat : Int)), 0 ≤ x ∧ x < 256 := fun d x hx => by
    obtain ⟨y, _, rfl⟩ := List.mem_map.1 hx
    have := hc y; omega
  have base : ∀ (c : UInt8) (d : List UInt8), d.length ≤ 255 → ([(c.toNat : Int), (d.length : Int)] ++ d.map (fun x => (x.toNat : Int))).map b8 = [c, UInt8.ofNat d.length] ++ d ∧ ∀ x ∈ [(c.toNat : Int), (d.length : Int)] ++ d.map (fun x => (x.toNat : Int)), 0 ≤ x ∧ x < 256 := fun c d h => by
    refine ⟨by rw [List.map_append, hd]; simp [b8_byte, hl _ h], fun x hx => ?_⟩
    rcases List.mem_append.1 hx with hx | hx
    · rcases List.mem_cons.1 hx with rfl | hx
      · have := hc c; omega
      · obtain rfl := List.mem_singleton.1 hx; omega
    · exact hb d x hx
  induction n with
  | zero => intro c d h; exact base c d (by omega)
  | succ n ih =>
    intro c d h
    rw [pieceL, pieceB]
    by_cases h255 : d.length ≤ 255
    · rw [if_pos h255, if_pos h255]; exact base c d h255
    · rw [if_neg h255, if_neg h255]
      obtain ⟨i1, i2⟩ := ih c (d.drop 255) (by rw [List.length_drop]; omega)
      refine ⟨by rw [List.map_append, List.map_append, hd, i1]; simp [b8_byte, show b8 255 = 255 from by decide], fun x hx => ?_⟩
      rcases List.mem_append.1 hx with hx | hx
      · rcases List.mem_append.1 hx with hx | hx
        · rcases List.mem_cons.1 hx with rfl | hx
          · have := hc c; omega
          · obtain rfl := List.mem_singleton.1 hx; omega
        · exact hb _ x hx
      · exact i2 x hx
theorem idx_last (pre : List S47) (c : Int) (d : ByteArray) (h : ∀ x ∈ pre, x.f0 ≠ c) : idxOf c (pre ++ [⟨c, d⟩]) 0 = (pre.length : Int) := by
  rcases idx_cases c (pre ++ [⟨c, d⟩]) with ⟨_, e⟩ | ⟨j, j1, e1, e2, e3⟩
  · exact absurd rfl (e ⟨c, d⟩ (by simp))
  · rw [e1]
    rw [List.length_append, List.length_singleton] at j1
    have hj : ¬ j < pre.length := fun hj => by
      refine h (pre.getD j z47) ?_ ?_
      · rw [List.getD_eq_getElem?_getD, List.getElem?_eq_getElem hj]; exact List.getElem_mem hj
      · rw [← e3, List.getD_eq_getElem?_getD, List.getD_eq_getElem?_getD, List.getElem?_append_left hj]
    omega
theorem idx_none (pre : List S47) (c : Int) (h : ∀ x ∈ pre, x.f0 ≠ c) : idxOf c pre 0 = -1 := by
  rcases idx_cases c pre with ⟨e, _⟩ | ⟨j, j1, _, _, e3⟩
  · exact e
  · refine absurd e3 (h _ ?_)
    rw [List.getD_eq_getElem?_getD, List.getElem?_eq_getElem j1]; exact List.getElem_mem j1
theorem add_new (pre : List S47) (c : Int) (d : ByteArray) (h : ∀ x ∈ pre, x.f0 ≠ c) (hl : pre.length < 128) : addS pre c d = (pre ++ [⟨c, d⟩], 0) := by
  unfold addS; rw [idx_none pre c h, if_pos (by decide), if_neg (by omega)]
theorem add_old (pre : List S47) (c : Int) (d0 d : ByteArray) (h : ∀ x ∈ pre, x.f0 ≠ c) (hd : d0.size + d.size ≤ 4096) : addS (pre ++ [⟨c, d0⟩]) c d = (pre ++ [⟨c, d0 ++ d⟩], 0) := by
  have hg : (pre ++ [(⟨c, d0⟩ : S47)]).getD pre.length z47 = ⟨c, d0⟩ := by simp
  unfold addS
  rw [idx_last pre c d0 h, if_neg (by omega), Int.toNat_natCast, hg, if_neg (by show ¬ 4096 < d0.size + d.size; omega)]
  simp
/-- The pieces behind the first. -/
theorem area_more : ∀ (n : Nat) (pre : List S47) (c : UInt8) (d0 : ByteArray) (d r : List UInt8), c ≠ 0 → c ≠ 255 → (∀ x ∈ pre, x.f0 ≠ (c.toNat : Int)) → d0.size + d.length ≤ 4096 → d.length ≤ 255 * n + 255 → areaA (pre ++ [⟨c.toNat, d0⟩]) (pieceB n c d ++ r) = areaA (pre ++ [⟨c.toNat, d0 ++ B d⟩]) r := by
  intro n
  have base : ∀ (pre : List S47) (c : UInt8) (d0 : ByteArray) (d r : List UInt8), c ≠ 0 → c ≠ 255 → (∀ x ∈ pre, x.f0 ≠ (c.toNat : Int)) → d0.size + d.length ≤ 4096 → d.length ≤ 255 → areaA (pre ++ [⟨c.toNat, d0⟩]) ([c, UInt8.ofNat d.length] ++ d ++ r) = areaA (pre ++ [⟨c.toNat, d0 ++ B d⟩]) r := fun pre c d0 d r h0 h1 hp hs hd => by
    have e := add_old pre c.toNat d0 (B d) hp hs
    have := areaA_opt (pre ++ [⟨c.toNat, d0⟩]) c (UInt8.ofNat d.length) d r h0 h1 (by rw [UInt8.toNat_ofNat']; omega) (by rw [e])
    rw [e] at this
    simpa using this
  induction n with
  | zero => intro pre c d0 d r h0 h1 hp hs hd; exact base pre c d0 d r h0 h1 hp hs (by omega)
  | succ n ih =>
    intro pre c d0 d r h0 h1 hp hs hd
    rw [pieceB]
    by_cases h255 : d.length ≤ 255
    · rw [if_pos h255]; exact base pre c d0 d r h0 h1 hp hs h255
    · rw [if_neg h255]
      have e := add_old pre c.toNat d0 (B (d.take 255)) hp (by rw [size_B, List.length_take]; omega)
      have h2 := areaA_opt (pre ++ [⟨c.toNat, d0⟩]) c 255 (d.take 255) (pieceB n c (d.drop 255) ++ r) h0 h1 (by rw [List.length_take, Nat.min_eq_left (by omega)]; rfl) (by rw [e])
      rw [e] at h2
      have h3 := ih pre c (d0 ++ B (d.take 255)) (d.drop 255) r h0 h1 hp (by rw [ByteArray.size_append, size_B, List.length_take, List.length_drop]; omega) (by rw [List.length_drop]; omega)
      have h4 : d0 ++ B (d.take 255) ++ B (d.drop 255) = d0 ++ B d := by
        rw [ByteArray.append_assoc, B_append, List.take_append_drop]
      rw [h4] at h3
      rw [← h3, ← h2]
      simp [List.append_assoc]
theorem area_first (n : Nat) (pre : List S47) (c : UInt8) (d r : List UInt8) (h0 : c ≠ 0) (h1 : c ≠ 255) (hp : ∀ x ∈ pre, x.f0 ≠ (c.toNat : Int)) (hl : pre.length < 128) (hs : d.length ≤ 4096) (hd : d.length ≤ 255 * n + 255) : areaA pre (pieceB n c d ++ r) = areaA (pre ++ [⟨c.toNat, B d⟩]) r := by
  have base : ∀ d : List UInt8, d.length ≤ 255 → areaA pre ([c, UInt8.ofNat d.length] ++ d ++ r) = areaA (pre ++ [⟨c.toNat, B d⟩]) r := fun d hd => by
    have e := add_new pre c.toNat (B d) hp hl
    have := areaA_opt pre c (UInt8.ofNat d.length) d r h0 h1 (by rw [UInt8.toNat_ofNat']; omega) (by rw [e])
    rw [e] at this
    simpa using this
  cases n with
  | zero => exact base d (by omega)
  | succ n =>
    rw [pieceB]
    by_cases h255 : d.length ≤ 255
    · rw [if_pos h255]; exact base d h255
    · rw [if_neg h255]
      have e := add_new pre c.toNat (B (d.take 255)) hp hl
      have h2 := areaA_opt pre c 255 (d.take 255) (pieceB n c (d.drop 255) ++ r) h0 h1 (by rw [List.length_take, Nat.min_eq_left (by omega)]; rfl) (by rw [e])
      rw [e] at h2
      have h3 := area_more n pre c (B (d.take 255)) (d.drop 255) r h0 h1 hp (by rw [size_B, List.length_take, List.length_drop]; omega) (by rw [List.length_drop]; omega)
      have h4 : B (d.take 255) ++ B (d.drop 255) = B d := by rw [B_append, List.take_append_drop]
      rw [h4] at h3
      rw [← h3, ← h2]
      simp [List.append_assoc]
end Go.Proofs.Ytdhmlenmnobmfaa.Opt
