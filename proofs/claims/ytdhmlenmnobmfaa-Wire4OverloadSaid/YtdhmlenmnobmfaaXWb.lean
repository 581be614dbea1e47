/- What is written is read again; what is read can be written, and isn't much longer: plain lemmas; conditions: the fields are of their kinds. -/
import Derived.Test.YtdhmlenmnobmfaaG0
import Derived.Test.YtdhmlenmnobmfaaG1
import Derived.Test.YtdhmlenmnobmfaaG2
import Derived.Test.YtdhmlenmnobmfaaG3
import Derived.Laws.BitsAllLaws
import Derived.Lib.Strings
import Derived.Test.YtdhmlenmnobmfaaXWk
set_option linter.unusedVariables false
set_option linter.unusedSimpArgs false
namespace Go.Proofs.Ytdhmlenmnobmfaa.W4
open Go.RowKit Go.Proofs.YtdhmlenmnobmfaaW.PrintWords Go.Proofs.YtdhmlenmnobmfaaW.PrintLast Go.Proofs.YtdhmlenmnobmfaaW.PrintMore Go.Proofs.Ytdhmlenmnobmfaa.X Go.Proofs.Ytdhmlenmnobmfaa.Oct Go.Proofs.Ytdhmlenmnobmfaa.Opt

/-- How many bytes an option of x bytes of data takes. -/
def wt (x : Nat) : Nat := x + 2 * (if x = 0 then 1 else (x + 254) / 255)
def W : List S47 → Nat
  | [] => 0
  | o :: l => wt o.f1.size + W l
theorem piece_wt : ∀ (n : Nat) (c : UInt8) (d : List UInt8), d.length ≤ 255 * n + 255 → (pieceB n c d).length = wt d.length := by
  intro n
  have base : ∀ (c : UInt8) (d : List UInt8), d.length ≤ 255 → ([c, UInt8.ofNat d.length] ++ d).length = wt d.length := fun c d h => by
    rw [List.length_append]; unfold wt
    simp only [List.length_cons, List.length_nil]
    split <;> omega
  induction n with
  | zero => intro c d h; exact base c d (by omega)
  | succ n ih =>
    intro c d h
    rw [pieceB]
    by_cases h255 : d.length ≤ 255
    · rw [if_pos h255]; exact base c d h255
    · rw [if_neg h255, List.length_append, List.length_append, ih c (d.drop 255) (by rw [List.length_drop]; omega), List.length_drop, List.length_take]
      unfold wt
      simp only [List.length_cons, List.length_nil]
      rw [if_neg (by omega), if_neg (by omega)]
      omega
theorem outB_W : ∀ (l : List S47), (∀ o ∈ l, o.f1.size ≤ 4096) → (outB l).length = W l
  | [], _ => rfl
  | o :: l, h => by
    have e : outB (o :: l) = pieceB 17 (UInt8.ofNat o.f0.toNat) (L o.f1) ++ outB l := by simp [outB]
    rw [e, List.length_append, piece_wt 17 _ _ (by rw [← size_L]; have := h o List.mem_cons_self; omega), outB_W l (fun x hx => h x (List.mem_cons_of_mem _ hx)), ← size_L]
    rfl
theorem W_append : ∀ (l r : List S47), W (l ++ r) = W l + W r
  | [], r => by simp [W]
  | o :: l, r => by rw [List.cons_append, W, W, W_append l r]; omega
theorem W_set : ∀ (l : List S47) (j : Nat) (v : S47), j < l.length → W (l.set j v) + wt (l.getD j z47).f1.size = W l + wt v.f1.size
  | [], j, v, h => by simp at h
  | o :: l, 0, v, h => by simp only [List.set_cons_zero, W, List.getD_cons_zero]; omega
  | o :: l, j + 1, v, h => by
    have := W_set l j v (by simpa using h)
    simp only [List.set_cons_succ, W, List.getD_cons_succ]; omega
theorem wt_small {x : Nat} (h : x ≤ 255) : wt x = x + 2 := by unfold wt; split <;> omega
theorem wt_more {x y : Nat} (h : y ≤ 255) : wt (x + y) ≤ wt x + y + 2 := by
  unfold wt
  by_cases h0 : x = 0
  · subst h0; rw [if_pos rfl]; split <;> omega
  · rw [if_neg h0, if_neg (by omega)]; omega
theorem W_add (l : List S47) (c : Int) (d : ByteArray) (hd : d.size ≤ 255) : W (addS l c d).1 ≤ W l + d.size + 2 := by
  unfold addS
  rcases idx_cases c l with ⟨e, _⟩ | ⟨j, hj, e, _⟩
  · rw [if_pos (by omega)]
    split
    · simp [W]
    · show W (l ++ [⟨c, d⟩]) ≤ _
      rw [W_append]; simp only [W]; rw [wt_small hd]; omega
  · rw [if_neg (by omega), e, Int.toNat_natCast]
    split
    · simp [W]
    · have := W_set l j ⟨(l.getD j z47).f0, (l.getD j z47).f1 ++ d⟩ hj
      have h2 : wt ((l.getD j z47).f1 ++ d).size ≤ wt (l.getD j z47).f1.size + d.size + 2 := by rw [ByteArray.size_append]; exact wt_more hd
      show W (l.set j ⟨(l.getD j z47).f0, (l.getD j z47).f1 ++ d⟩) ≤ _
      simp only at this
      omega
theorem W_area : ∀ (n : Nat) (l : List S47) (bs : List UInt8), W (areaL n l bs).1 ≤ W l + bs.length
  | 0, l, bs => by show W l ≤ _; omega
  | _ + 1, l, [] => by rw [areaL]; simp
  | n + 1, l, [c] => by
    rw [areaL_one]
    split
    · simp
    · split
      · have := W_area n l []; simp at this ⊢; omega
      · simp [W]
  | n + 1, l, c :: m :: q => by
    rw [areaL_two]
    split
    · simp
    · split
      · have := W_area n l (m :: q); simp only [List.length_cons] at this ⊢; omega
      · split
        · simp [W]
        · rename_i hq
          split
          · have h1 := W_area n (addS l c.toNat (B (q.take m.toNat))).1 (q.drop m.toNat)
            have hz : (B (q.take m.toNat)).size = m.toNat := by rw [size_B, List.length_take]; omega
            have h2 := W_add l c.toNat (B (q.take m.toNat)) (by have := m.toNat_lt; omega)
            rw [List.length_drop] at h1
            simp only [List.length_cons]
            omega
          · simp [W]
def Z : List ByteArray → Nat
  | [] => 0
  | s :: r => s.size + Z r
theorem W_parse : ∀ (ar : List ByteArray) (l : List S47), W (parseL l ar).1 ≤ W l + Z ar
  | [], l => by simp [parseL, Z]
  | s :: r, l => by
    unfold parseL
    split
    · have h1 := W_area s.size l (L s)
      have h2 := W_parse r (areaL s.size l (L s)).1
      rw [← size_L] at h1
      simp only [Z]; omega
    · simp [W]
theorem W_drop : ∀ (l : List S47), W (drop52 l) ≤ W l
  | [] => by simp [drop52]
  | o :: l => by
    have := W_drop l
    unfold drop52 at this ⊢
    rw [List.filter_cons]
    split
    · simp only [W]; omega
    · simp only [W]; omega
theorem good_drop {l : List S47} (h : Opt.Good l) : Opt.Good (drop52 l) :=
  ⟨Nat.le_trans (List.length_filter_le _ _) h.1, fun o ho => h.2.1 o (List.mem_filter.1 ho).1, h.2.2.filter _⟩
theorem drop_none (l : List S47) : (findL (drop52 l)).2 = false := by
  unfold findL
  rcases idx_cases 52 (drop52 l) with ⟨e, _⟩ | ⟨j, hj, e, _, h2⟩
  · rw [if_pos (by omega)]
  · exfalso
    have hm : (drop52 l).getD j z47 ∈ drop52 l := by rw [getD_at hj]; exact List.getElem_mem hj
    have := (List.mem_filter.1 hm).2
    rw [h2] at this; simp at this
theorem drop_same {l : List S47} (h : (findL l).2 = false) : drop52 l = l := by
  unfold drop52
  rw [List.filter_eq_self]
  intro o ho
  have := findL_none h o ho
  simpa using this
theorem parse_out {l : List S47} (h : Opt.Good l) : parseL [] [B (outB l ++ [255])] = (l, 0) := by
  have e := read_back [] l [] (by simpa using h)
  unfold areaA at e
  unfold parseL
  rw [show (B (outB l ++ [255])).size = (outB l ++ 255 :: []).length from rfl, show L (B (outB l ++ [255])) = outB l ++ 255 :: [] from rfl, e]
  rfl
def preL (m : S26) : List UInt8 := numsL m ++ L m.f11 ++ L m.f12 ++ L m.f13
theorem head_back {m : S26} (hK : Kinds m) (h1 : m.f11.size = 16) (h2 : m.f12.size = 64) (h3 : m.f13.size = 128) :
    hdV (B (preL m)) = ⟨m.f0, m.f1, m.f2, m.f3, m.f4, m.f5, m.f6, m.f7, m.f8, m.f9, m.f10, m.f11, m.f12, m.f13, []⟩ := by
  obtain ⟨⟨a0, b0, a1, b1, a2, b2, a3, b3⟩, k4, k5, k6, k7, k8, k9, k10, _⟩ := hK
  rw [size_L] at h1 h2 h3
  have hlen : (preL m).length = 236 := by simp only [preL, numsL, List.length_append, be4_length, be2_length, List.length_cons, List.length_nil]; omega
  have c (i : Nat) (x : UInt8) (hi : i < (preL m).length) (hx : (preL m)[i] = x) : bt (B (preL m)) (i : Int) = (x.toNat : Int) := by rw [bt_L (B (preL m)) i hi]; rw [← hx]; rfl
  have e0 := c 0 (b8 m.f0) (by omega) rfl
  have e1 := c 1 (b8 m.f1) (by omega) rfl
  have e2 := c 2 (b8 m.f2) (by omega) rfl
  have e3 := c 3 (b8 m.f3) (by omega) rfl
  rw [b8_nat] at e0 e1 e2 e3
  have p4 := [b8 m.f0, b8 m.f1, b8 m.f2, b8 m.f3]
  have g4 := getN_mid [b8 m.f0, b8 m.f1, b8 m.f2, b8 m.f3] (be4 m.f4) (be2 m.f5 ++ be2 m.f6 ++ be4 m.f7 ++ be4 m.f8 ++ be4 m.f9 ++ be4 m.f10 ++ L m.f11 ++ L m.f12 ++ L m.f13) 4 rfl
  have g5 := getN_mid ([b8 m.f0, b8 m.f1, b8 m.f2, b8 m.f3] ++ be4 m.f4) (be2 m.f5) (be2 m.f6 ++ be4 m.f7 ++ be4 m.f8 ++ be4 m.f9 ++ be4 m.f10 ++ L m.f11 ++ L m.f12 ++ L m.f13) 2 rfl
  have g6 := getN_mid ([b8 m.f0, b8 m.f1, b8 m.f2, b8 m.f3] ++ be4 m.f4 ++ be2 m.f5) (be2 m.f6) (be4 m.f7 ++ be4 m.f8 ++ be4 m.f9 ++ be4 m.f10 ++ L m.f11 ++ L m.f12 ++ L m.f13) 2 rfl
  have g7 := getN_mid ([b8 m.f0, b8 m.f1, b8 m.f2, b8 m.f3] ++ be4 m.f4 ++ be2 m.f5 ++ be2 m.f6) (be4 m.f7) (be4 m.f8 ++ be4 m.f9 ++ be4 m.f10 ++ L m.f11 ++ L m.f12 ++ L m.f13) 4 rfl
  have g8 := getN_mid ([b8 m.f0, b8 m.f1, b8 m.f2, b8 m.f3] ++ be4 m.f4 ++ be2 m.f5 ++ be2 m.f6 ++ be4 m.f7) (be4 m.f8) (be4 m.f9 ++ be4 m.f10 ++ L m.f11 ++ L m.f12 ++ L m.f13) 4 rfl
  have g9 := getN_mid ([b8 m.f0, b8 m.f1, b8 m.f2, b8 m.f3] ++ be4 m.f4 ++ be2 m.f5 ++ be2 m.f6 ++ be4 m.f7 ++ be4 m.f8) (be4 m.f9) (be4 m.f10 ++ L m.f11 ++ L m.f12 ++ L m.f13) 4 rfl
  have g10 := getN_mid ([b8 m.f0, b8 m.f1, b8 m.f2, b8 m.f3] ++ be4 m.f4 ++ be2 m.f5 ++ be2 m.f6 ++ be4 m.f7 ++ be4 m.f8 ++ be4 m.f9) (be4 m.f10) (L m.f11 ++ L m.f12 ++ L m.f13) 4 rfl
  rw [num_be4 _ k4.1 k4.2] at g4; rw [num_be2 _ k5.1 k5.2] at g5; rw [num_be2 _ k6.1 k6.2] at g6; rw [num_be4 _ k7.1 k7.2] at g7; rw [num_be4 _ k8.1 k8.2] at g8; rw [num_be4 _ k9.1 k9.2] at g9; rw [num_be4 _ k10.1 k10.2] at g10
  have s11 : (B (preL m)).extract 28 44 = m.f11 := by
    apply ext_L
    rw [L_extract, L_B, show preL m = numsL m ++ (L m.f11 ++ (L m.f12 ++ L m.f13)) by simp only [preL, List.append_assoc], List.drop_left' (show (numsL m).length = 28 from rfl), List.take_left' h1]
  have s12 : (B (preL m)).extract 44 108 = m.f12 := by
    apply ext_L
    rw [L_extract, L_B, show preL m = (numsL m ++ L m.f11) ++ (L m.f12 ++ L m.f13) by simp only [preL, List.append_assoc], List.drop_left' (show (numsL m ++ L m.f11).length = 44 by rw [List.length_append, h1]; rfl), List.take_left' h2]
  have s13 : (B (preL m)).extract 108 236 = m.f13 := by
    apply ext_L
    rw [L_extract, L_B, show preL m = (numsL m ++ L m.f11 ++ L m.f12) ++ L m.f13 from rfl, List.drop_left' (show (numsL m ++ L m.f11 ++ L m.f12).length = 108 by rw [List.length_append, List.length_append, h1, h2]; rfl), List.take_of_length_le (by omega)]
  unfold hdV
  rw [s11, s12, s13, L_B]
  simp only [preL, numsL, List.append_assoc, List.length_append, be4_length, be2_length, List.length_cons, List.length_nil] at g4 g5 g6 g7 g8 g9 g10 e0 e1 e2 e3 ⊢
  refine S26.mk.injEq .. |>.mpr ⟨?_, ?_, ?_, ?_, g4, g5, g6, g7, g8, g9, g10, rfl, rfl, rfl, rfl⟩
  · exact e0.trans (by omega)
  · exact e1.trans (by omega)
  · exact e2.trans (by omega)
  · exact e3.trans (by omega)
theorem back {m : S26} (hK : Kinds m) (hs : soundV m = true) (hl : (encL m).length ≤ 65507) : decV (B (encL m)) = (m, 0) := by
  obtain ⟨h1, h2, h3, h4, h5⟩ := soundV_iff.1 hs
  have hg := (emitV_good hK.2.2.2.2.2.2.2.2.2 h5).1
  have hlen := encL_length hs hg
  have hpl : (preL m).length = 236 := by simp only [preL, numsL, List.length_append, be4_length, be2_length, List.length_cons, List.length_nil, ← size_L]; omega
  have he : encL m = preL m ++ ([99, 130, 83, 99] ++ (outB m.f14 ++ [255])) := by simp only [encL, preL, List.append_assoc]
  have x0 : (B (encL m)).extract 0 236 = B (preL m) := by
    apply ext_L
    rw [L_extract, L_B, L_B, he, List.drop_zero, Nat.sub_zero, List.take_left' hpl]
  have x1 : ((B (encL m)).extract 236 240).toList = [99, 130, 83, 99] := by
    rw [toList_L, L_extract, L_B, he, List.drop_left' hpl]; rfl
  have x2 : (B (encL m)).extract 240 (B (encL m)).size = B (outB m.f14 ++ [255]) := by
    apply ext_L
    rw [L_extract, L_B, L_B, he, ← List.append_assoc, List.drop_left' (show (preL m ++ [99, 130, 83, 99]).length = 240 by rw [List.length_append, hpl]; rfl), List.take_of_length_le (by rw [size_B]; simp only [List.length_append, hpl, List.length_cons, List.length_nil]; omega)]
  have hh : howV m.f14 = 0 := by unfold howV; rw [if_neg (by rw [h4]; decide)]
  have hp := parse_out hg
  have hb : areasV (hdV (B (preL m))) (B (outB m.f14 ++ [255])) = ([B (outB m.f14 ++ [255])], 0, m.f12, m.f13) := by
    rw [areasV_ok (by rw [hp]) (x := 0) (by rw [hp]; exact hh) (by decide), head_back hK h1 h2 h3]; rfl
  unfold decV
  rw [if_neg (by rw [size_B]; omega), if_neg (by rw [size_B]; omega), if_pos x1, x0, x2, hb, head_back hK h1 h2 h3]
  dsimp only
  rw [if_pos rfl, hp, if_pos rfl, drop_same h4]
theorem bt_range {s : ByteArray} (i : Nat) (h : i < s.size) : 0 ≤ bt s (i : Int) ∧ bt s (i : Int) < 256 := by
  rw [bt_L s i (by rw [← size_L]; exact h)]
  have := (L s)[i].toNat_lt
  omega
theorem areas_ok {m : S26} {f : ByteArray} (h : (areasV m f).2.1 = 0) : ∃ x : Int, areasV m f = (partsV m f x, 0, nameV m x, fileV m x) := by
  by_cases h0 : (parseL [] [f]).2 = 0
  · by_cases h4 : howV (parseL [] [f]).1 = 4
    · rw [areasV_bad h0 h4] at h; exact absurd (show (130 : Int) = 0 from h) (by decide)
    · exact ⟨_, areasV_ok h0 rfl h4⟩
  · rw [areasV_err h0] at h; exact absurd h h0
theorem Z_parts (m : S26) (f : ByteArray) (x : Int) (h1 : m.f12.size ≤ 64) (h2 : m.f13.size ≤ 128) : Z (partsV m f x) ≤ f.size + 192 := by
  unfold partsV
  split
  · simp only [Z]; omega
  · split
    · simp only [Z]; omega
    · split
      · simp only [Z]; omega
      · simp only [Z]; omega
theorem dec_err {s : ByteArray} (h : ¬ (decV s).2 = 0) : (decV s).1 = zM := by
  unfold decV at h ⊢
  split at h
  · rename_i c; rw [if_pos c]
  · rename_i c; rw [if_neg c]
    split at h
    · rename_i c; rw [if_pos c]
    · rename_i c; rw [if_neg c]
      split at h
      · rename_i c; rw [if_pos c]
        split at h
        · rename_i c; rw [if_pos c]
          split at h
          · exact absurd rfl h
          · rename_i c; rw [if_neg c]
        · rename_i c; rw [if_neg c]
      · rename_i c; rw [if_neg c]
theorem dec_good {s : ByteArray} (h : (decV s).2 = 0) : Kinds (decV s).1 ∧ soundV (decV s).1 = true ∧ (encL (decV s).1).length ≤ s.size + 193 := by
  unfold decV at h ⊢
  by_cases h1 : 65507 < s.size
  · rw [if_pos h1] at h; exact absurd h (by decide)
  rw [if_neg h1] at h ⊢
  by_cases h2 : s.size < 240
  · rw [if_pos h2] at h; exact absurd h (by decide)
  rw [if_neg h2] at h ⊢
  by_cases h3 : (s.extract 236 240).toList = [99, 130, 83, 99]
  case neg => rw [if_neg h3] at h; exact absurd h (by decide)
  rw [if_pos h3] at h ⊢
  have hH : (s.extract 0 236).size = 236 := by rw [ByteArray.size_extract]; omega
  have hf : (s.extract 240 s.size).size = s.size - 240 := by rw [ByteArray.size_extract]; omega
  generalize s.extract 0 236 = H at h hH ⊢
  generalize s.extract 240 s.size = f at h hf ⊢
  by_cases h4 : (areasV (hdV H) f).2.1 = 0
  case neg => rw [if_neg h4] at h; exact absurd h h4
  rw [if_pos h4] at h ⊢
  obtain ⟨x, hx⟩ := areas_ok h4
  rw [hx] at h ⊢
  by_cases h5 : (parseL [] (partsV (hdV H) f x)).2 = 0
  case neg => rw [if_neg h5] at h; exact absurd h h5
  rw [if_pos h5] at h ⊢
  have hg := good_parse (partsV (hdV H) f x) [] good_nil
  have hw := W_parse (partsV (hdV H) f x) []
  have hz := Z_parts (hdV H) f x (hd_sizes H).1 (hd_sizes H).2
  have hd := good_drop hg
  have hn := drop_none (parseL [] (partsV (hdV H) f x)).1
  have hW := W_drop (parseL [] (partsV (hdV H) f x)).1
  generalize drop52 (parseL [] (partsV (hdV H) f x)).1 = o at hd hn hW ⊢
  have s11 : (hdV H).f11.size = 16 := by simp only [hdV, ByteArray.size_extract]; omega
  have s12 : (nameV (hdV H) x).size = 64 := by
    unfold nameV; split
    · rfl
    · simp only [hdV, ByteArray.size_extract]; omega
  have s13 : (fileV (hdV H) x).size = 128 := by
    unfold fileV; split
    · rfl
    · simp only [hdV, ByteArray.size_extract]; omega
  have hs : soundV ⟨(hdV H).f0, (hdV H).f1, (hdV H).f2, (hdV H).f3, (hdV H).f4, (hdV H).f5, (hdV H).f6, (hdV H).f7, (hdV H).f8, (hdV H).f9, (hdV H).f10, (hdV H).f11, nameV (hdV H) x, fileV (hdV H) x, o⟩ = true :=
    soundV_iff.2 ⟨s11, s12, s13, hn, by show (emitV o).2 = 0; rw [good_emitV hd]⟩
  refine ⟨?_, hs, ?_⟩
  · have c0 := bt_range (s := H) 0 (by omega)
    have c1 := bt_range (s := H) 1 (by omega)
    have c2 := bt_range (s := H) 2 (by omega)
    have c3 := bt_range (s := H) 3 (by omega)
    refine ⟨⟨c0.1, c0.2, c1.1, c1.2, c2.1, c2.2, c3.1, c3.2⟩, getN_range _ _ 4, getN_range _ _ 2, getN_range _ _ 2, getN_range _ _ 4, getN_range _ _ 4, getN_range _ _ 4, getN_range _ _ 4, ?_, fun y hy => ?_⟩
    · have := hd.1; show o.length ≤ _; omega
    · obtain ⟨⟨c, hc, _⟩, _⟩ := hd.2.1 y hy
      have := c.toNat_lt
      omega
  · rw [encL_length hs hd]
    have := outB_W o (fun y hy => (hd.2.1 y hy).2)
    show 241 + (outB o).length ≤ _
    simp only [W] at hw
    omega
end Go.Proofs.Ytdhmlenmnobmfaa.W4
