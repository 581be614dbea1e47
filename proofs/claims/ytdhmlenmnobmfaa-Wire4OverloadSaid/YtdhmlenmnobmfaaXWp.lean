/- Wire4Overload, plain: what is put into the fields is read; conditions: the fields are of their kinds. -/
import Derived.Test.YtdhmlenmnobmfaaG0
import Derived.Test.YtdhmlenmnobmfaaG1
import Derived.Test.YtdhmlenmnobmfaaG2
import Derived.Test.YtdhmlenmnobmfaaG3
import Derived.Laws.BitsAllLaws
import Derived.Lib.Strings
import Derived.Test.YtdhmlenmnobmfaaXWo
import Derived.Test.YtdhmlenmnobmfaaGO
set_option linter.unusedVariables false
set_option linter.unusedSimpArgs false
namespace Go.Proofs.Ytdhmlenmnobmfaa.W4
open Go.RowKit Go.Proofs.YtdhmlenmnobmfaaW.PrintWords Go.Proofs.YtdhmlenmnobmfaaW.PrintLast Go.Proofs.YtdhmlenmnobmfaaW.PrintMore Go.Proofs.Ytdhmlenmnobmfaa.X Go.Proofs.Ytdhmlenmnobmfaa.Oct Go.Proofs.Ytdhmlenmnobmfaa.Opt

theorem setB_B (l : List UInt8) (i : Nat) (v : Int) : XByR.setB (B l) i v = B (l.set i (UInt8.ofNat v.toNat)) := by
  show (⟨l.toArray.setIfInBounds i _⟩ : ByteArray) = ⟨(l.set i _).toArray⟩
  rw [List.setIfInBounds_toArray]
theorem set_mid (t u : List UInt8) (x v : UInt8) (i : Nat) (hi : i = t.length) : (t ++ x :: u).set i v = t ++ v :: u := by
  subst hi
  rw [List.set_append_right _ _ (Nat.le_refl _), Nat.sub_self, List.set_cons_zero]
theorem fill_eq (a : ByteArray) (p d r : List UInt8) (ha : a.size ≤ d.length) : ∀ q, q ≤ d.length → fillS p.length a (B (p ++ (d ++ r))) q = B (p ++ (((L a ++ List.replicate (d.length - a.size) 0).take q ++ d.drop q) ++ r))
  | 0, _ => by simp [fillS]
  | q + 1, hq => by
    have ih := fill_eq a p d r ha q (by omega)
    have hla : (L a).length = a.size := (size_L a).symm
    have hz : (L a ++ List.replicate (d.length - a.size) (0 : UInt8)).length = d.length := by rw [List.length_append, List.length_replicate]; omega
    generalize hzz : L a ++ List.replicate (d.length - a.size) (0 : UInt8) = z at ih hz ⊢
    have hqz : q < z.length := by omega
    have ht : (z.take q).length = q := by rw [List.length_take]; omega
    have hd : d.drop q = d[q]'(by omega) :: d.drop (q + 1) := List.drop_eq_getElem_cons (by omega)
    have hset : ∀ (x v : UInt8), (p ++ ((z.take q ++ x :: d.drop (q + 1)) ++ r)).set (p.length + q) v = p ++ ((z.take q ++ v :: d.drop (q + 1)) ++ r) := fun x v => by
      have e : ∀ y : UInt8, p ++ ((z.take q ++ y :: d.drop (q + 1)) ++ r) = (p ++ z.take q) ++ y :: (d.drop (q + 1) ++ r) := fun y => by simp [List.append_assoc]
      rw [e x, e v]
      exact set_mid _ _ _ _ _ (by rw [List.length_append, ht])
    have hfin : ∀ v : UInt8, v = z[q] → p ++ ((z.take q ++ v :: d.drop (q + 1)) ++ r) = p ++ ((z.take (q + 1) ++ d.drop (q + 1)) ++ r) := fun v hv => by
      rw [List.take_succ_eq_append_getElem hqz, hv]
      simp only [List.append_assoc, List.singleton_append, List.cons_append, List.nil_append]
    rw [fillS, ih, hd]
    by_cases h : q < a.size
    · rw [if_pos h, setB_B, hset, setB_B, hset]
      refine congrArg B (hfin _ ?_)
      have hb := bt_L a q (by omega)
      subst hzz
      rw [hb, List.getElem_append_left (by omega)]
      simp
    · rw [if_neg h, setB_B, hset]
      refine congrArg B (hfin _ ?_)
      subst hzz
      rw [List.getElem_append_right (by omega), List.getElem_replicate]
      rfl
/-- The field with a row in it. -/
def fld (a : ByteArray) (n : Nat) : ByteArray := B (L a ++ List.replicate (n - a.size) 0)
theorem fld_size (a : ByteArray) (n : Nat) (h : a.size ≤ n) : (fld a n).size = n := by
  show (L a ++ List.replicate (n - a.size) (0 : UInt8)).length = n
  rw [List.length_append, List.length_replicate, ← size_L]; omega
theorem fill_all (a : ByteArray) (p d r : List UInt8) (ha : a.size ≤ d.length) : fillS p.length a (B (p ++ (d ++ r))) d.length = B (p ++ (L (fld a d.length) ++ r)) := by
  rw [fill_eq a p d r ha d.length (Nat.le_refl _), List.drop_length, List.append_nil, List.take_of_length_le (by rw [List.length_append, List.length_replicate, ← size_L]; omega)]
  rfl
theorem numsL_length (m : S26) : (numsL m).length = 28 := rfl
theorem pre_file (m : S26) (a : ByteArray) (h1 : m.f11.size = 16) (h2 : m.f12.size = 64) (h3 : m.f13.size = 128) (ha : a.size ≤ 128) (r : List UInt8) : fillS 108 a (B (preL m ++ r)) 128 = B (preL { m with f13 := fld a 128 } ++ r) := by
  have hp : (numsL m ++ L m.f11 ++ L m.f12).length = 108 := by rw [List.length_append, List.length_append, numsL_length, ← size_L, ← size_L]; omega
  have hd : (L m.f13).length = 128 := by rw [← size_L]; exact h3
  have h := fill_all a (numsL m ++ L m.f11 ++ L m.f12) (L m.f13) r (by omega)
  rw [hp, hd] at h
  have e1 : preL m ++ r = (numsL m ++ L m.f11 ++ L m.f12) ++ (L m.f13 ++ r) := by unfold preL; simp only [List.append_assoc]
  have e2 : preL { m with f13 := fld a 128 } ++ r = (numsL m ++ L m.f11 ++ L m.f12) ++ (L (fld a 128) ++ r) := by unfold preL; simp only [List.append_assoc]; rfl
  rw [e1, e2, h]
theorem pre_name (m : S26) (a : ByteArray) (h1 : m.f11.size = 16) (h2 : m.f12.size = 64) (ha : a.size ≤ 64) (r : List UInt8) : fillS 44 a (B (preL m ++ r)) 64 = B (preL { m with f12 := fld a 64 } ++ r) := by
  have hp : (numsL m ++ L m.f11).length = 44 := by rw [List.length_append, numsL_length, ← size_L]; omega
  have hd : (L m.f12).length = 64 := by rw [← size_L]; exact h2
  have h := fill_all a (numsL m ++ L m.f11) (L m.f12) (L m.f13 ++ r) (by omega)
  rw [hp, hd] at h
  have e1 : preL m ++ r = (numsL m ++ L m.f11) ++ (L m.f12 ++ (L m.f13 ++ r)) := by unfold preL; simp only [List.append_assoc]
  have e2 : preL { m with f12 := fld a 64 } ++ r = (numsL m ++ L m.f11) ++ (L (fld a 64) ++ (L m.f13 ++ r)) := by unfold preL; simp only [List.append_assoc]; rfl
  rw [e1, e2, h]
theorem how_end {l : List S47} (h52 : (findL l).2 = false) (v : UInt8) (hv : v = 1 ∨ v = 2 ∨ v = 3) : howV (l ++ [⟨52, B [v]⟩]) = (v.toNat : Int) := by
  have hn := findL_none h52
  have hi : idxOf 52 (l ++ [(⟨52, B [v]⟩ : S47)]) 0 = (l.length : Int) := by
    rcases idx_cases 52 (l ++ [(⟨52, B [v]⟩ : S47)]) with ⟨_, h⟩ | ⟨j, hj, e, h1, h2⟩
    · exact (h (⟨52, B [v]⟩ : S47) (by simp) rfl).elim
    · rw [e]
      by_cases hlt : j < l.length
      · exfalso
        have : (l ++ [(⟨52, B [v]⟩ : S47)]).getD j z47 = l[j] := by rw [List.getD_eq_getElem?_getD, List.getElem?_append_left hlt, List.getElem?_eq_getElem hlt]; rfl
        rw [this] at h2
        exact hn _ (List.getElem_mem hlt) h2
      · rw [List.length_append, List.length_singleton] at hj
        omega
  have hf : findL (l ++ [⟨52, B [v]⟩]) = (B [v], true) := by
    unfold findL
    rw [hi, if_neg (by omega)]
    have : rd_T47 (l ++ [⟨52, B [v]⟩]) (l.length : Int) = ⟨52, B [v]⟩ := by simp [rd_T47, List.getD_eq_getElem?_getD]
    rw [this]
  unfold howV
  rw [hf, if_pos rfl]
  rcases hv with rfl | rfl | rfl <;> decide +kernel
theorem area_of {l0 : List S47} {s : ByteArray} {x : List S47} (h : parseL [] [s] = (x, 0)) : areaA [] (L s) = (x, 0) := by
  rw [parse_cons] at h
  by_cases h2 : (areaA [] (L s)).2 = 0
  · rw [if_pos h2] at h
    have : (areaA [] (L s)).1 = x := (Prod.mk.inj h).1
    exact Prod.ext this h2
  · rw [if_neg h2] at h
    exact absurd (Prod.mk.inj h).2 h2
/-- A message whose fields for names hold options. -/
theorem over_dec {m : S26} (hK : Kinds m) (h1 : m.f11.size = 16) (h2 : m.f12.size = 64) (h3 : m.f13.size = 128) {l : List S47} (hg : Opt.Good l) (h52 : (findL l).2 = false) (v : UInt8) (hv : v = 1 ∨ v = 2 ∨ v = 3)
    (fs : List (List S47 × List UInt8)) (hfs : ∀ p ∈ fs, Opt.Good p.1) (hpt : ∀ f, partsV m f (v.toNat : Int) = f :: fs.map fun p => B (outB p.1 ++ 255 :: p.2)) (hz : (outB l).length ≤ 65000) :
    decV (B (preL m ++ ([99, 130, 83, 99] ++ (outB l ++ [52, 1, v, 255])))) = if l.length < 128 ∧ (addAll (l ++ [⟨52, B [v]⟩]) (fs.flatMap fun p => pcs p.1)).2 = 0 then
      (⟨m.f0, m.f1, m.f2, m.f3, m.f4, m.f5, m.f6, m.f7, m.f8, m.f9, m.f10, m.f11, nameV m (v.toNat : Int), fileV m (v.toNat : Int), drop52 (addAll (l ++ [⟨52, B [v]⟩]) (fs.flatMap fun p => pcs p.1)).1⟩, 0) else (zM, 6) := by
  have hpl : (preL m).length = 236 := by unfold preL; simp only [List.length_append, numsL_length, ← size_L, h1, h2, h3]
  generalize hs : B (preL m ++ ([99, 130, 83, 99] ++ (outB l ++ [52, 1, v, 255]))) = s
  have hL : L s = preL m ++ ([99, 130, 83, 99] ++ (outB l ++ [52, 1, v, 255])) := by rw [← hs, L_B]
  have hsz : s.size = 244 + (outB l).length := by rw [size_L, hL]; simp only [List.length_append, hpl, List.length_cons, List.length_nil]; omega
  have x0 : s.extract 0 236 = B (preL m) := by
    apply ext_L
    rw [L_extract, hL, L_B, List.drop_zero, Nat.sub_zero, List.take_left' hpl]
  have x1 : (s.extract 236 240).toList = [99, 130, 83, 99] := by
    rw [toList_L, L_extract, hL, List.drop_left' hpl]; rfl
  have x2 : s.extract 240 s.size = B (outB l ++ [52, 1, v, 255]) := by
    apply ext_L
    rw [L_extract, hL, L_B, ← List.append_assoc, List.drop_left' (show (preL m ++ [99, 130, 83, 99]).length = 240 by rw [List.length_append, hpl]; rfl), List.take_of_length_le (by rw [hsz]; simp only [List.length_append, List.length_cons, List.length_nil]; omega)]
  have hf := first_area hg h52 v
  have hh := head_back hK h1 h2 h3
  unfold decV
  rw [if_neg (by omega), if_neg (by omega), if_pos x1, x0, x2, hh]
  by_cases hl : l.length < 128
  · rw [if_pos hl] at hf
    have ha := areasV_ok (m := ⟨m.f0, m.f1, m.f2, m.f3, m.f4, m.f5, m.f6, m.f7, m.f8, m.f9, m.f10, m.f11, m.f12, m.f13, []⟩) (f := B (outB l ++ [52, 1, v, 255])) (by rw [hf]) (x := (v.toNat : Int)) (by rw [hf]; exact how_end h52 v hv) (by rcases hv with rfl | rfl | rfl <;> decide)
    have hp2 : partsV ⟨m.f0, m.f1, m.f2, m.f3, m.f4, m.f5, m.f6, m.f7, m.f8, m.f9, m.f10, m.f11, m.f12, m.f13, []⟩ (B (outB l ++ [52, 1, v, 255])) (v.toNat : Int) = B (outB l ++ [52, 1, v, 255]) :: fs.map fun p => B (outB p.1 ++ 255 :: p.2) := hpt _
    have har := area_of (l0 := []) hf
    have hpa : parseL [] (B (outB l ++ [52, 1, v, 255]) :: fs.map fun p => B (outB p.1 ++ 255 :: p.2)) = addAll (l ++ [⟨52, B [v]⟩]) (fs.flatMap fun p => pcs p.1) := by
      rw [parse_cons, har, if_pos rfl]
      exact parse_fields fs _ hfs
    rw [ha, hp2]
    dsimp only
    rw [if_pos rfl, hpa]
    by_cases h0 : (addAll (l ++ [⟨52, B [v]⟩]) (fs.flatMap fun p => pcs p.1)).2 = 0
    · rw [if_pos h0, if_pos ⟨hl, h0⟩]; rfl
    · rw [if_neg h0, if_neg (fun h => h0 h.2)]
      rcases addAll_err (fs.flatMap fun p => pcs p.1) (l ++ [⟨52, B [v]⟩]) with h | h
      · exact absurd h h0
      · rw [h]
  · rw [if_neg hl] at hf
    have ha := areasV_err (m := ⟨m.f0, m.f1, m.f2, m.f3, m.f4, m.f5, m.f6, m.f7, m.f8, m.f9, m.f10, m.f11, m.f12, m.f13, []⟩) (f := B (outB l ++ [52, 1, v, 255])) (by rw [hf]; decide)
    rw [ha, hf]
    dsimp only
    rw [if_neg (by decide), if_neg (fun h => hl h.1)]
theorem drop_app (l : List S47) (d : ByteArray) : drop52 (l ++ [⟨52, d⟩]) = drop52 l := by
  unfold drop52
  rw [List.filter_append]
  simp
end Go.Proofs.Ytdhmlenmnobmfaa.W4
