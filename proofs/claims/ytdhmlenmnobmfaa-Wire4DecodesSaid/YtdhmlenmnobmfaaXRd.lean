/- The reference's reading of a message comes to the same: plain lemmas; no condition. -/
import Derived.Test.YtdhmlenmnobmfaaG0
import Derived.Test.YtdhmlenmnobmfaaG1
import Derived.Test.YtdhmlenmnobmfaaG2
import Derived.Test.YtdhmlenmnobmfaaG3
import Derived.Test.YtdhmlenmnobmfaaG7
import Derived.Test.YtdhmlenmnobmfaaG8
import Derived.Laws.BitsAllLaws
import Derived.Lib.Strings
import Derived.Test.YtdhmlenmnobmfaaXWj
import Derived.Test.YtdhmlenmnobmfaaXDo2
import Derived.Test.YtdhmlenmnobmfaaXDoG
set_option linter.unusedVariables false
set_option linter.unusedSimpArgs false
namespace Go.Proofs.Ytdhmlenmnobmfaa.W4
open Go.RowKit Go.Proofs.YtdhmlenmnobmfaaW.PrintWords Go.Proofs.YtdhmlenmnobmfaaW.PrintLast Go.Proofs.YtdhmlenmnobmfaaW.PrintMore Go.Proofs.Ytdhmlenmnobmfaa.X Go.Proofs.Ytdhmlenmnobmfaa.Oct Go.Proofs.Ytdhmlenmnobmfaa.Opt

theorem rz64 : tenancyref14_zeros.f 64 = some (B (List.replicate 64 0)) := by decide +kernel
theorem rz128 : tenancyref14_zeros.f 128 = some (B (List.replicate 128 0)) := by decide +kernel
/-- What reading the areas gives. -/
def endV (m : S26) (ar : List ByteArray) (nm fl : ByteArray) : S26 × Int :=
  if (parseL [] ar).2 = 0 then (⟨m.f0, m.f1, m.f2, m.f3, m.f4, m.f5, m.f6, m.f7, m.f8, m.f9, m.f10, m.f11, nm, fl, drop52 (parseL [] ar).1⟩, 0) else (zM, (parseL [] ar).2)
theorem rj4 {k : Nat} (hk : 211000 ≤ k) (m : S26) (ar : List ByteArray) (nm fl : ByteArray) (h1 : ar.length ≤ 3) (h2 : ∀ y ∈ ar, y.size ≤ 70000) :
    tenancyref14_Decode.j4 (k + 1) ar m.f0 m.f1 m.f2 m.f3 m.f4 m.f5 m.f6 m.f7 m.f8 m.f9 m.f10 m.f11 nm fl = some (tup (endV m ar nm fl)) := by
  rw [tenancyref14_Decode.j4, rparse_eq (M := 70000) (by omega) ar (by omega) h2 (by omega), Option.bind_some]
  unfold endV
  by_cases h5 : (parseL [] ar).2 = 0
  · have hfit := (fit_parse ar [] fit_nil).1
    rw [if_pos h5, if_pos h5, without_eq _ 52 (by omega) (by omega), Option.bind_some]; simp only [tup, drop52]
  · rw [if_neg h5, if_neg h5]; simp only [tup, zM]
theorem rj0_bad (k : Nat) (ar : List ByteArray) (d : ByteArray) (b : Bool) (m : S26) (nm fl : ByteArray) : tenancyref14_Decode.j0 (k + 1) ar d b true m.f0 m.f1 m.f2 m.f3 m.f4 m.f5 m.f6 m.f7 m.f8 m.f9 m.f10 m.f11 nm fl = some (tup (zM, 130)) := by
  rw [tenancyref14_Decode.j0, if_pos rfl]; simp only [tup, zM]
theorem rj0_none (k : Nat) (ar : List ByteArray) (d : ByteArray) (m : S26) (nm fl : ByteArray) : tenancyref14_Decode.j0 (k + 4) ar d false false m.f0 m.f1 m.f2 m.f3 m.f4 m.f5 m.f6 m.f7 m.f8 m.f9 m.f10 m.f11 nm fl =
    tenancyref14_Decode.j4 k ar m.f0 m.f1 m.f2 m.f3 m.f4 m.f5 m.f6 m.f7 m.f8 m.f9 m.f10 m.f11 nm fl := by
  rw [tenancyref14_Decode.j0, if_neg (by decide), if_neg (by decide), tenancyref14_Decode.j1, if_neg (by decide), tenancyref14_Decode.j2, if_neg (by decide), tenancyref14_Decode.j3, if_neg (by decide)]
theorem rj0_v (k : Nat) (f d : ByteArray) (m : S26) (hd : d.size = 1) (v : Int) (hv : bt d 0 = v) (h : v = 1 ∨ v = 2 ∨ v = 3) : tenancyref14_Decode.j0 (k + 4) [f] d true false m.f0 m.f1 m.f2 m.f3 m.f4 m.f5 m.f6 m.f7 m.f8 m.f9 m.f10 m.f11 m.f12 m.f13 =
    tenancyref14_Decode.j4 k (partsV m f v) m.f0 m.f1 m.f2 m.f3 m.f4 m.f5 m.f6 m.f7 m.f8 m.f9 m.f10 m.f11 (nameV m v) (fileV m v) := by
  rw [tenancyref14_Decode.j0, if_neg (by decide), if_pos rfl, if_pos (show (0 : Int) < (d.size : Int) by omega), hv, tenancyref14_Decode.j1]
  rcases h with rfl | rfl | rfl
  · rw [if_pos (by decide), if_pos (by simp), rz128, Option.bind_some, tenancyref14_Decode.j2, if_pos rfl, if_pos (show (0 : Int) < (d.size : Int) by omega), hv, tenancyref14_Decode.j3, if_neg (by decide)]; rfl
  · rw [if_neg (by decide), tenancyref14_Decode.j2, if_pos rfl, if_pos (show (0 : Int) < (d.size : Int) by omega), hv, tenancyref14_Decode.j3, if_pos (by decide), if_pos (by simp), rz64, Option.bind_some]; rfl
  · rw [if_pos (by decide), if_pos (by simp), rz128, Option.bind_some, tenancyref14_Decode.j2, if_pos rfl, if_pos (show (0 : Int) < (d.size : Int) by omega), hv, tenancyref14_Decode.j3, if_pos (by decide), if_pos (by simp), rz64, Option.bind_some]; rfl
theorem bt_pre (s : ByteArray) (hs : 240 ≤ s.size) (i : Nat) (hi : i < 236) : bt s (i : Int) = bt (s.extract 0 236) (i : Int) := by
  have h1 : i < (L s).length := by rw [← size_L]; omega
  have h2 : i < (L (s.extract 0 236)).length := by rw [← size_L, ByteArray.size_extract]; omega
  rw [bt_L s i h1, bt_L _ i h2]
  have e : L (s.extract 0 236) = (L s).take 236 := by rw [L_extract, List.drop_zero, Nat.sub_zero]
  simp only [e, List.getElem_take]
theorem getN_pre (s : ByteArray) (hs : 240 ≤ s.size) (i n : Nat) (hi : i + n ≤ 236) : getN (L s) (i : Int) (n : Int) = getN (L (s.extract 0 236)) (i : Int) (n : Int) := by
  have e : L (s.extract 0 236) = (L s).take 236 := by rw [L_extract, List.drop_zero, Nat.sub_zero]
  have hl : 240 ≤ (L s).length := by rw [← size_L]; exact hs
  unfold getN cutL
  have c1 : cutB (L s) (i : Int) (n : Int) = true := by simp only [cutB, decide_eq_true_eq]; omega
  have c2 : cutB (L (s.extract 0 236)) (i : Int) (n : Int) = true := by rw [e]; simp only [cutB, decide_eq_true_eq, List.length_take]; omega
  rw [if_pos c1, if_pos c2, e, Int.toNat_natCast, Int.toNat_natCast, List.drop_take, List.take_take, Nat.min_eq_left (by omega)]
theorem word_eq {k : Nat} (hk : 10 ≤ k) (s : ByteArray) (at_ : Int) (hs : s.size ≤ 4611686018427387904) (ha : -9223372036854775808 ≤ at_ ∧ at_ ≤ 9223372036854775807) : tenancyref14_word.f k s at_ = some (getN (L s) at_ 4) := by
  unfold tenancyref14_word.f
  rw [rget32 hk s at_ hs ha, Option.bind_some]
theorem u16_eq (s : ByteArray) (hs : 240 ≤ s.size) (i : Nat) (hi : i + 1 < 236) : IntKind.u16.wrap ((IntKind.u16.wrap ((IntKind.u16.wrap (bt s (i : Int))) * 256)) + (IntKind.u16.wrap (bt s ((i + 1 : Nat) : Int)))) = getN (L s) (i : Int) 2 := by
  have hl : 240 ≤ (L s).length := by rw [← size_L]; exact hs
  have h1 : i < (L s).length := by omega
  have h2 : i + 1 < (L s).length := by omega
  rw [bt_L s i h1, bt_L s (i + 1) h2]
  have c1 : cutB (L s) (i : Int) 2 = true := by simp only [cutB, decide_eq_true_eq]; omega
  unfold getN cutL
  rw [if_pos c1, Int.toNat_natCast, show ((2 : Int)).toNat = 2 from rfl, List.drop_eq_getElem_cons h1, List.drop_eq_getElem_cons h2]
  have b1 := (L s)[i].toNat_lt
  have b2 := (L s)[i + 1].toNat_lt
  simp only [List.take_succ_cons, List.take_zero, num, List.foldl_cons, List.foldl_nil, u16_wrap]
  omega
theorem rdecode_eq {k : Nat} (hk : 220000 ≤ k) (s : ByteArray) : tenancyref14_Decode.f k s = some (tup (decV s)) := by
  unfold tenancyref14_Decode.f
  by_cases h1 : 65507 < s.size
  · rw [if_pos (show (s.size : Int) > 65507 by omega)]; unfold decV; rw [if_pos h1]; simp only [tup, zM]
  rw [if_neg (show ¬ (s.size : Int) > 65507 by omega)]
  by_cases h2 : s.size < 240
  · rw [if_pos (show (s.size : Int) < 240 by omega)]; unfold decV; rw [if_neg h1, if_pos h2]; simp only [tup, zM]
  rw [if_neg (show ¬ (s.size : Int) < 240 by omega), if_pos (by decide), if_pos (show (240 : Int) ≤ (s.size : Int) by omega)]
  by_cases h3 : (s.extract 236 240).toList = [99, 130, 83, 99]
  case neg => rw [if_neg h3]; unfold decV; rw [if_neg h1, if_neg h2, if_neg h3]; simp only [tup, zM]
  have hs : 240 ≤ s.size := by omega
  have hf : (s.extract 240 s.size).size ≤ 70000 := by rw [ByteArray.size_extract]; omega
  rw [if_pos h3, if_pos (by omega), if_pos (by omega), if_pos (by omega), if_pos (by omega), if_pos (by decide), if_pos (by omega), if_pos (by decide), if_pos (by omega), if_pos (by decide), if_pos (by omega),
    word_eq (by omega) s 4 (by omega) (by omega), Option.bind_some, if_pos (by omega), if_pos (by omega), if_pos (by omega), if_pos (by omega),
    word_eq (by omega) s 12 (by omega) (by omega), Option.bind_some, word_eq (by omega) s 16 (by omega) (by omega), Option.bind_some, word_eq (by omega) s 20 (by omega) (by omega), Option.bind_some, word_eq (by omega) s 24 (by omega) (by omega), Option.bind_some,
    Option.bind_some, rparse_eq (M := 70000) (by omega) [s.extract 240 s.size] (by simp) (fun y hy => by obtain rfl := List.mem_singleton.1 hy; exact hf) (by simp; omega), Option.bind_some]
  have e0 := bt_pre s hs 0 (by omega); have e1 := bt_pre s hs 1 (by omega); have e2 := bt_pre s hs 2 (by omega); have e3 := bt_pre s hs 3 (by omega)
  have g4 := getN_pre s hs 4 4 (by omega); have g8 := getN_pre s hs 8 2 (by omega); have g10 := getN_pre s hs 10 2 (by omega); have g12 := getN_pre s hs 12 4 (by omega); have g16 := getN_pre s hs 16 4 (by omega); have g20 := getN_pre s hs 20 4 (by omega); have g24 := getN_pre s hs 24 4 (by omega)
  have u8 := u16_eq s hs 8 (by omega); have u10 := u16_eq s hs 10 (by omega)
  have x1 : s.extract 28 44 = (s.extract 0 236).extract 28 44 := by rw [ext_ext]; rfl
  have x2 : s.extract 44 108 = (s.extract 0 236).extract 44 108 := by rw [ext_ext]; rfl
  have x3 : s.extract 108 236 = (s.extract 0 236).extract 108 236 := by rw [ext_ext]; rfl
  rw [show ((8 : Nat) : Int) = 8 from rfl, show ((8 + 1 : Nat) : Int) = 9 from rfl] at u8
  rw [show ((10 : Nat) : Int) = 10 from rfl, show ((10 + 1 : Nat) : Int) = 11 from rfl] at u10
  rw [show ((0 : Nat) : Int) = 0 from rfl] at e0; rw [show ((1 : Nat) : Int) = 1 from rfl] at e1; rw [show ((2 : Nat) : Int) = 2 from rfl] at e2; rw [show ((3 : Nat) : Int) = 3 from rfl] at e3
  simp only [show ((4 : Nat) : Int) = 4 from rfl, show ((2 : Nat) : Int) = 2 from rfl, show ((8 : Nat) : Int) = 8 from rfl, show ((10 : Nat) : Int) = 10 from rfl, show ((12 : Nat) : Int) = 12 from rfl, show ((16 : Nat) : Int) = 16 from rfl, show ((20 : Nat) : Int) = 20 from rfl, show ((24 : Nat) : Int) = 24 from rfl] at g4 g8 g10 g12 g16 g20 g24
  rw [u8, u10, e0, e1, e2, e3, g4, g8, g10, g12, g16, g20, g24, x1, x2, x3]
  unfold decV
  rw [if_neg h1, if_neg h2, if_pos h3]
  generalize hM : hdV (s.extract 0 236) = m
  generalize s.extract 240 s.size = f at hf ⊢
  have hm : (hdV (s.extract 0 236)).f12.size ≤ 70000 ∧ (hdV (s.extract 0 236)).f13.size ≤ 70000 := ⟨Nat.le_trans (hd_sizes _).1 (by omega), Nat.le_trans (hd_sizes _).2 (by omega)⟩
  rw [hM] at hm
  have q0 : bt (s.extract 0 236) 0 = m.f0 := by rw [← hM]; rfl
  have q1 : bt (s.extract 0 236) 1 = m.f1 := by rw [← hM]; rfl
  have q2 : bt (s.extract 0 236) 2 = m.f2 := by rw [← hM]; rfl
  have q3 : bt (s.extract 0 236) 3 = m.f3 := by rw [← hM]; rfl
  have q4 : getN (L (s.extract 0 236)) 4 4 = m.f4 := by rw [← hM]; rfl
  have q5 : getN (L (s.extract 0 236)) 8 2 = m.f5 := by rw [← hM]; rfl
  have q6 : getN (L (s.extract 0 236)) 10 2 = m.f6 := by rw [← hM]; rfl
  have q7 : getN (L (s.extract 0 236)) 12 4 = m.f7 := by rw [← hM]; rfl
  have q8 : getN (L (s.extract 0 236)) 16 4 = m.f8 := by rw [← hM]; rfl
  have q9 : getN (L (s.extract 0 236)) 20 4 = m.f9 := by rw [← hM]; rfl
  have q10 : getN (L (s.extract 0 236)) 24 4 = m.f10 := by rw [← hM]; rfl
  have q11 : (s.extract 0 236).extract 28 44 = m.f11 := by rw [← hM]; rfl
  have q12 : (s.extract 0 236).extract 44 108 = m.f12 := by rw [← hM]; rfl
  have q13 : (s.extract 0 236).extract 108 236 = m.f13 := by rw [← hM]; rfl
  rw [q0, q1, q2, q3, q4, q5, q6, q7, q8, q9, q10, q11, q12, q13]
  have hpar := parts_small m f hm.1 hm.2 hf
  obtain ⟨j, rfl⟩ : ∃ j, k = j + 1 + 4 := ⟨k - 5, by omega⟩
  by_cases h0 : (parseL [] [f]).2 = 0
  case neg =>
    rw [areasV_err h0]
    dsimp only
    rw [if_neg h0, if_neg h0]; simp only [tup, zM]
  have hfit := (fit_parse [f] [] fit_nil).1
  rw [if_pos h0, find_eq _ 52 (by omega) (by omega), find52, Option.bind_some]
  have fin (x : Int) (hx : howV (parseL [] [f]).1 = x) (h4 : ¬ x = 4) : some (tup (endV m (partsV m f x) (nameV m x) (fileV m x))) = some (tup (if (areasV m f).2.1 = 0 then (if (parseL [] (areasV m f).1).2 = 0 then ((⟨m.f0, m.f1, m.f2, m.f3, m.f4, m.f5, m.f6, m.f7, m.f8, m.f9, m.f10, m.f11, (areasV m f).2.2.1, (areasV m f).2.2.2, drop52 (parseL [] (areasV m f).1).1⟩ : S26), (0 : Int)) else (zM, (parseL [] (areasV m f).1).2)) else (zM, (areasV m f).2.1))) := by
    rw [areasV_ok h0 hx h4]
    dsimp only
    rw [if_pos rfl]
    rfl
  have bad (h4 : howV (parseL [] [f]).1 = 4) : some (tup (zM, 130)) = some (tup (if (areasV m f).2.1 = 0 then (if (parseL [] (areasV m f).1).2 = 0 then ((⟨m.f0, m.f1, m.f2, m.f3, m.f4, m.f5, m.f6, m.f7, m.f8, m.f9, m.f10, m.f11, (areasV m f).2.2.1, (areasV m f).2.2.2, drop52 (parseL [] (areasV m f).1).1⟩ : S26), (0 : Int)) else (zM, (parseL [] (areasV m f).1).2)) else (zM, (areasV m f).2.1))) := by
    rw [areasV_bad h0 h4]
    dsimp only
    rw [if_neg (by decide)]
  have par (x : Int) (hx : howV (parseL [] [f]).1 = x) (h4 : ¬ x = 4) : (partsV m f x).length ≤ 3 ∧ ∀ y ∈ partsV m f x, y.size ≤ 70000 := by
    have := hpar; rw [areasV_ok h0 hx h4] at this; exact this
  by_cases h5 : (findL (parseL [] [f]).1).2 = true
  · rw [if_pos h5, h5]
    by_cases h6 : (findL (parseL [] [f]).1).1.size = 1
    · rw [if_pos (show ((findL (parseL [] [f]).1).1.size : Int) = 1 by omega), if_pos (show (0 : Int) < ((findL (parseL [] [f]).1).1.size : Int) by omega)]
      by_cases h7 : bt (findL (parseL [] [f]).1).1 0 < 1
      · have hh : howV (parseL [] [f]).1 = 4 := by unfold howV; rw [if_pos h5, if_neg (by omega)]
        rw [if_pos h7, rj0_bad]; exact bad hh
      · rw [if_neg h7]
        by_cases h8 : bt (findL (parseL [] [f]).1).1 0 > 3
        · have hh : howV (parseL [] [f]).1 = 4 := by unfold howV; rw [if_pos h5, if_neg (by omega)]
          rw [decide_eq_true h8, rj0_bad]; exact bad hh
        · have hh : howV (parseL [] [f]).1 = bt (findL (parseL [] [f]).1).1 0 := by unfold howV; rw [if_pos h5, if_pos ⟨h6, by omega, by omega⟩]
          have hv : bt (findL (parseL [] [f]).1).1 0 = 1 ∨ bt (findL (parseL [] [f]).1).1 0 = 2 ∨ bt (findL (parseL [] [f]).1).1 0 = 3 := by omega
          rw [decide_eq_false h8, rj0_v (j + 1) f _ m h6 _ rfl hv, rj4 (by omega) m _ _ _ (par _ hh (by omega)).1 (par _ hh (by omega)).2]
          exact fin _ hh (by omega)
    · have hh : howV (parseL [] [f]).1 = 4 := by unfold howV; rw [if_pos h5, if_neg (fun h => h6 h.1)]
      rw [if_neg (show ¬ ((findL (parseL [] [f]).1).1.size : Int) = 1 by omega), rj0_bad]; exact bad hh
  · have hh : howV (parseL [] [f]).1 = 0 := by unfold howV; rw [if_neg h5]
    have p0 : partsV m f 0 = [f] := rfl
    have pz := par 0 hh (by decide)
    rw [p0] at pz
    rw [if_neg h5, Bool.eq_false_iff.mpr h5, rj0_none, rj4 (by omega) m [f] m.f12 m.f13 pz.1 pz.2]
    exact fin 0 hh (by decide)
end Go.Proofs.Ytdhmlenmnobmfaa.W4
