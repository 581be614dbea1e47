/- What reading a message of DHCPv4 comes to: plain lemmas; no condition. -/
import Derived.Test.YtdhmlenmnobmfaaG0
import Derived.Test.YtdhmlenmnobmfaaG1
import Derived.Test.YtdhmlenmnobmfaaG2
import Derived.Test.YtdhmlenmnobmfaaG3
import Derived.Laws.BitsAllLaws
import Derived.Lib.Strings
import Derived.Test.YtdhmlenmnobmfaaXWi
set_option linter.unusedVariables false
set_option linter.unusedSimpArgs false
namespace Go.Proofs.Ytdhmlenmnobmfaa.W4
open Go.RowKit Go.Proofs.YtdhmlenmnobmfaaW.PrintWords Go.Proofs.YtdhmlenmnobmfaaW.PrintLast Go.Proofs.YtdhmlenmnobmfaaW.PrintMore Go.Proofs.Ytdhmlenmnobmfaa.X Go.Proofs.Ytdhmlenmnobmfaa.Oct Go.Proofs.Ytdhmlenmnobmfaa.Opt

/-- The fields of a head. -/
def hdV (h : ByteArray) : S26 := ⟨bt h 0, bt h 1, bt h 2, bt h 3, getN (L h) 4 4, getN (L h) 8 2, getN (L h) 10 2, getN (L h) 12 4, getN (L h) 16 4, getN (L h) 20 4, getN (L h) 24 4, h.extract 28 44, h.extract 44 108, h.extract 108 236, []⟩
theorem ext_ext (h : ByteArray) (a b c d : Nat) : (h.extract a b).extract c d = h.extract (a + c) (min (a + d) b) := by
  apply ext_L
  rw [L_extract, L_extract, L_extract, List.drop_take, List.take_take, List.drop_drop]
  congr 1
  omega
theorem head_eq {k : Nat} (hk : 6 ≤ k) (h : ByteArray) (hs : h.size = 236) : wire4_head.f k h = some ((hdV h).f0, (hdV h).f1, (hdV h).f2, (hdV h).f3, (hdV h).f4, (hdV h).f5, (hdV h).f6, (hdV h).f7, (hdV h).f8, (hdV h).f9, (hdV h).f10, (hdV h).f11, (hdV h).f12, (hdV h).f13, (hdV h).f14) := by
  have e1 : (h.extract 28 h.size).size = 208 := by rw [ByteArray.size_extract]; omega
  have e2 : ((h.extract 28 h.size).extract 16 (h.extract 28 h.size).size).size = 192 := by rw [ByteArray.size_extract, e1]; omega
  unfold wire4_head.f
  rw [if_pos (by omega), if_pos (by omega), if_pos (by omega), if_pos (by omega), get32 hk h 4 (by omega) (by omega), Option.bind_some, get16 (by omega) h 8 (by omega) (by omega), Option.bind_some, get16 (by omega) h 10 (by omega) (by omega), Option.bind_some,
    get32 hk h 12 (by omega) (by omega), Option.bind_some, get32 hk h 16 (by omega) (by omega), Option.bind_some, get32 hk h 20 (by omega) (by omega), Option.bind_some, get32 hk h 24 (by omega) (by omega), Option.bind_some,
    if_pos (by omega), if_pos (by decide), if_pos (by omega), if_pos (by decide), if_pos (by omega), e2, e1, hs, ext_ext, ext_ext, ext_ext, ext_ext, ext_ext]
  rfl
theorem zeros64 : wire4_zeros.f 64 = some (B (List.replicate 64 0)) := by decide +kernel
theorem zeros128 : wire4_zeros.f 128 = some (B (List.replicate 128 0)) := by decide +kernel
theorem zeros16 : wire4_zeros.f 16 = some (B (List.replicate 16 0)) := by decide +kernel
/-- What the option says of the fields for names: 0: nothing; 4: amiss. -/
def howV (l : List S47) : Int := if (findL l).2 = true then (if (findL l).1.size = 1 ∧ 1 ≤ bt (findL l).1 0 ∧ bt (findL l).1 0 ≤ 3 then bt (findL l).1 0 else 4) else 0
def partsV (m : S26) (f : ByteArray) (h : Int) : List ByteArray := if h = 1 then [f, m.f13] else if h = 2 then [f, m.f12] else if h = 3 then [f, m.f13, m.f12] else [f]
def nameV (m : S26) (h : Int) : ByteArray := if h = 2 ∨ h = 3 then B (List.replicate 64 0) else m.f12
def fileV (m : S26) (h : Int) : ByteArray := if h = 1 ∨ h = 3 then B (List.replicate 128 0) else m.f13
theorem how_cases (l : List S47) : howV l = 0 ∨ howV l = 1 ∨ howV l = 2 ∨ howV l = 3 ∨ howV l = 4 := by
  unfold howV
  split
  · split
    · omega
    · omega
  · omega
/-- The areas and the fields for names behind them. -/
def areasV (m : S26) (f : ByteArray) : List ByteArray × Int × ByteArray × ByteArray :=
  if (parseL [] [f]).2 ≠ 0 then ([], (parseL [] [f]).2, m.f12, m.f13) else if howV (parseL [] [f]).1 = 4 then ([], 130, m.f12, m.f13) else
    (partsV m f (howV (parseL [] [f]).1), 0, nameV m (howV (parseL [] [f]).1), fileV m (howV (parseL [] [f]).1))
theorem areasV_err {m : S26} {f : ByteArray} (h : ¬ (parseL [] [f]).2 = 0) : areasV m f = ([], (parseL [] [f]).2, m.f12, m.f13) := by unfold areasV; rw [if_pos h]
theorem areasV_bad {m : S26} {f : ByteArray} (h : (parseL [] [f]).2 = 0) (hh : howV (parseL [] [f]).1 = 4) : areasV m f = ([], 130, m.f12, m.f13) := by unfold areasV; rw [if_neg (fun g => g h), if_pos hh]
theorem areasV_ok {m : S26} {f : ByteArray} (h : (parseL [] [f]).2 = 0) {x : Int} (hx : howV (parseL [] [f]).1 = x) (hh : ¬ x = 4) : areasV m f = (partsV m f x, 0, nameV m x, fileV m x) := by
  unfold areasV; rw [if_neg (fun g => g h), hx, if_neg hh]
theorem hd_sizes (h : ByteArray) : (hdV h).f12.size ≤ 64 ∧ (hdV h).f13.size ≤ 128 := by
  constructor <;> (simp only [hdV, ByteArray.size_extract]; omega)
theorem areas_eq {k : Nat} (hk : 211000 ≤ k) (m : S26) (f : ByteArray) (hf : f.size ≤ 70000) : wire4_areas.f k m.f0 m.f1 m.f2 m.f3 m.f4 m.f5 m.f6 m.f7 m.f8 m.f9 m.f10 m.f11 m.f12 m.f13 m.f14 f =
    some ((areasV m f).1, (areasV m f).2.1, m.f0, m.f1, m.f2, m.f3, m.f4, m.f5, m.f6, m.f7, m.f8, m.f9, m.f10, m.f11, (areasV m f).2.2.1, (areasV m f).2.2.2) := by
  unfold wire4_areas.f
  rw [Option.bind_some, parse_eq (M := 70000) (by omega) [f] (by simp) (fun y hy => by obtain rfl := List.mem_singleton.1 hy; exact hf) (by simp; omega), Option.bind_some]
  by_cases h0 : (parseL [] [f]).2 = 0
  · rw [if_pos h0, find52, Option.bind_some]
    by_cases h1 : (findL (parseL [] [f]).1).2 = true
    · rw [if_pos h1]
      by_cases h2 : (findL (parseL [] [f]).1).1.size = 1
      · rw [if_pos (show ((findL (parseL [] [f]).1).1.size : Int) = 1 by omega), if_pos (show (0 : Int) < ((findL (parseL [] [f]).1).1.size : Int) by omega)]
        by_cases h3 : bt (findL (parseL [] [f]).1).1 0 < 1
        · have hh : howV (parseL [] [f]).1 = 4 := by unfold howV; rw [if_pos h1, if_neg (by omega)]
          rw [if_pos h3, areasV_bad h0 hh]
        · by_cases h4 : bt (findL (parseL [] [f]).1).1 0 > 3
          · have hh : howV (parseL [] [f]).1 = 4 := by unfold howV; rw [if_pos h1, if_neg (by omega)]
            rw [if_neg h3, if_pos h4, areasV_bad h0 hh]
          · have hh : howV (parseL [] [f]).1 = bt (findL (parseL [] [f]).1).1 0 := by unfold howV; rw [if_pos h1, if_pos ⟨h2, by omega, by omega⟩]
            rw [if_neg h3, if_neg h4]
            obtain hx | hx | hx : bt (findL (parseL [] [f]).1).1 0 = 1 ∨ bt (findL (parseL [] [f]).1).1 0 = 2 ∨ bt (findL (parseL [] [f]).1).1 0 = 3 := by omega
            · rw [areasV_ok h0 (hh.trans hx) (by decide), hx, if_neg (by decide), if_pos (by simp), Option.bind_some, zeros128, Option.bind_some, if_pos (by decide)]; rfl
            · rw [areasV_ok h0 (hh.trans hx) (by decide), hx, if_pos (by decide), if_neg (by decide), if_pos (by simp), zeros64, Option.bind_some]; rfl
            · rw [areasV_ok h0 (hh.trans hx) (by decide), hx, if_neg (by decide), if_pos (by simp), Option.bind_some, zeros128, Option.bind_some, if_neg (by decide), if_pos (by simp), zeros64, Option.bind_some]; rfl
      · have hh : howV (parseL [] [f]).1 = 4 := by unfold howV; rw [if_pos h1, if_neg (fun h => h2 h.1)]
        rw [if_neg (show ¬ ((findL (parseL [] [f]).1).1.size : Int) = 1 by omega), areasV_bad h0 hh]
    · have hh : howV (parseL [] [f]).1 = 0 := by unfold howV; rw [if_neg h1]
      rw [if_neg h1, areasV_ok h0 hh (by decide)]; rfl
  · rw [if_neg h0, areasV_err h0]
def zM : S26 := ⟨0, 0, 0, 0, 0, 0, 0, 0, 0, 0, 0, ⟨#[]⟩, ⟨#[]⟩, ⟨#[]⟩, []⟩
/-- A message without an option. -/
def drop52 (l : List S47) : List S47 := l.filter fun x => !(x.f0 == 52)
/-- A message out of its bytes. -/
def decV (s : ByteArray) : S26 × Int :=
  if 65507 < s.size then (zM, 6) else if s.size < 240 then (zM, 3) else if (s.extract 236 240).toList = [99, 130, 83, 99] then
    (if (areasV (hdV (s.extract 0 236)) (s.extract 240 s.size)).2.1 = 0 then
      (if (parseL [] (areasV (hdV (s.extract 0 236)) (s.extract 240 s.size)).1).2 = 0 then
        (⟨(hdV (s.extract 0 236)).f0, (hdV (s.extract 0 236)).f1, (hdV (s.extract 0 236)).f2, (hdV (s.extract 0 236)).f3, (hdV (s.extract 0 236)).f4, (hdV (s.extract 0 236)).f5, (hdV (s.extract 0 236)).f6, (hdV (s.extract 0 236)).f7, (hdV (s.extract 0 236)).f8, (hdV (s.extract 0 236)).f9, (hdV (s.extract 0 236)).f10, (hdV (s.extract 0 236)).f11,
          (areasV (hdV (s.extract 0 236)) (s.extract 240 s.size)).2.2.1, (areasV (hdV (s.extract 0 236)) (s.extract 240 s.size)).2.2.2, drop52 (parseL [] (areasV (hdV (s.extract 0 236)) (s.extract 240 s.size)).1).1⟩, 0)
      else (zM, (parseL [] (areasV (hdV (s.extract 0 236)) (s.extract 240 s.size)).1).2))
    else (zM, (areasV (hdV (s.extract 0 236)) (s.extract 240 s.size)).2.1))
  else (zM, 140)
def tup (p : S26 × Int) : Int × Int × Int × Int × Int × Int × Int × Int × Int × Int × Int × ByteArray × ByteArray × ByteArray × List S47 × Int := (p.1.f0, p.1.f1, p.1.f2, p.1.f3, p.1.f4, p.1.f5, p.1.f6, p.1.f7, p.1.f8, p.1.f9, p.1.f10, p.1.f11, p.1.f12, p.1.f13, p.1.f14, p.2)
theorem parts_small (m : S26) (f : ByteArray) (h1 : m.f12.size ≤ 70000) (h2 : m.f13.size ≤ 70000) (hf : f.size ≤ 70000) : (areasV m f).1.length ≤ 3 ∧ ∀ y ∈ (areasV m f).1, y.size ≤ 70000 := by
  unfold areasV
  split
  · simp
  · split
    · simp
    · show (partsV m f _).length ≤ 3 ∧ ∀ y ∈ partsV m f _, y.size ≤ 70000
      unfold partsV
      split
      · simp [h2, hf]
      · split
        · simp [h1, hf]
        · split
          · simp [h1, h2, hf]
          · simp [hf]
set_option maxRecDepth 10000 in
theorem decode_eq {k : Nat} (hk : 211000 ≤ k) (s : ByteArray) : wire4_Decode.f k s = some (tup (decV s)) := by
  unfold wire4_Decode.f decV
  by_cases h1 : 65507 < s.size
  · rw [if_pos (show (s.size : Int) > 65507 by omega), if_pos h1]; simp only [tup, zM]
  rw [if_neg (show ¬ (s.size : Int) > 65507 by omega), if_neg h1]
  by_cases h2 : s.size < 240
  · rw [if_pos (show (s.size : Int) < 240 by omega), if_pos h2]; simp only [tup, zM]
  rw [if_neg (show ¬ (s.size : Int) < 240 by omega), if_neg h2]
  by_cases h3 : (s.extract 236 240).toList = [99, 130, 83, 99]
  · have hz : (s.extract 0 236).size = 236 := by rw [ByteArray.size_extract]; omega
    have hf : (s.extract 240 s.size).size ≤ 70000 := by rw [ByteArray.size_extract]; omega
    have hp := parts_small (hdV (s.extract 0 236)) (s.extract 240 s.size) (Nat.le_trans (hd_sizes _).1 (by omega)) (Nat.le_trans (hd_sizes _).2 (by omega)) hf
    rw [if_pos h3, if_pos h3, head_eq (by omega) _ hz, Option.bind_some]
    rw [areas_eq hk (hdV (s.extract 0 236)) _ hf, Option.bind_some]
    by_cases h4 : (areasV (hdV (s.extract 0 236)) (s.extract 240 s.size)).2.1 = 0
    · rw [if_pos h4, if_pos h4, parse_eq (M := 70000) (by omega) _ (by omega) hp.2 (by omega), Option.bind_some]
      by_cases h5 : (parseL [] (areasV (hdV (s.extract 0 236)) (s.extract 240 s.size)).1).2 = 0
      · have hfit := (fit_parse (areasV (hdV (s.extract 0 236)) (s.extract 240 s.size)).1 [] fit_nil).1
        rw [if_pos h5, if_pos h5, opt4_Without.f, if_pos (by omega), Option.bind_some]; simp only [tup, drop52]
      · rw [if_neg h5, if_neg h5]; simp only [tup, zM]
    · rw [if_neg h4, if_neg h4]; simp only [tup, zM]
  · rw [if_neg h3, if_neg h3]; simp only [tup, zM]
end Go.Proofs.Ytdhmlenmnobmfaa.W4
