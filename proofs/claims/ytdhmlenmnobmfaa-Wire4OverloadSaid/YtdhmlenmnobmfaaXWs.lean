/- Messages of DHCPv4 with bytes behind them, cut, spoilt: plain lemmas; conditions: the fields are of their kinds. -/
import Derived.Test.YtdhmlenmnobmfaaG0
import Derived.Test.YtdhmlenmnobmfaaG1
import Derived.Test.YtdhmlenmnobmfaaG2
import Derived.Test.YtdhmlenmnobmfaaG3
import Derived.Laws.BitsAllLaws
import Derived.Lib.Strings
import Derived.Test.YtdhmlenmnobmfaaXWb
set_option linter.unusedVariables false
set_option linter.unusedSimpArgs false
namespace Go.Proofs.Ytdhmlenmnobmfaa.W4
open Go.RowKit Go.Proofs.YtdhmlenmnobmfaaW.PrintWords Go.Proofs.YtdhmlenmnobmfaaW.PrintLast Go.Proofs.YtdhmlenmnobmfaaW.PrintMore Go.Proofs.Ytdhmlenmnobmfaa.X Go.Proofs.Ytdhmlenmnobmfaa.Oct Go.Proofs.Ytdhmlenmnobmfaa.Opt

theorem parse_out_tail {l : List S47} (h : Opt.Good l) (t : List UInt8) : parseL [] [B (outB l ++ 255 :: t)] = (l, 0) := by
  have e := read_back t l [] (by simpa using h)
  unfold areaA at e
  unfold parseL
  rw [show (B (outB l ++ 255 :: t)).size = (outB l ++ 255 :: t).length from rfl, show L (B (outB l ++ 255 :: t)) = outB l ++ 255 :: t from rfl, e]
  rfl
theorem encL_pre (m : S26) : encL m = preL m ++ ([99, 130, 83, 99] ++ (outB m.f14 ++ [255])) := by simp only [encL, preL, List.append_assoc]
theorem preL_length {m : S26} (hs : soundV m = true) : (preL m).length = 236 := by
  obtain ⟨h1, h2, h3, h4, h5⟩ := soundV_iff.1 hs
  simp only [preL, numsL, List.length_append, be4_length, be2_length, List.length_cons, List.length_nil, ← size_L]; omega
theorem back_tail {m : S26} (hK : Kinds m) (hs : soundV m = true) (t : List UInt8) (hl : (encL m).length + t.length ≤ 65507) : decV (B (encL m ++ t)) = (m, 0) := by
  obtain ⟨h1, h2, h3, h4, h5⟩ := soundV_iff.1 hs
  have hg := (emitV_good hK.2.2.2.2.2.2.2.2.2 h5).1
  have hlen := encL_length hs hg
  have hpl := preL_length hs
  have he : encL m ++ t = preL m ++ ([99, 130, 83, 99] ++ (outB m.f14 ++ 255 :: t)) := by rw [encL_pre]; simp only [List.append_assoc, List.cons_append, List.nil_append]
  have x0 : (B (encL m ++ t)).extract 0 236 = B (preL m) := by
    apply ext_L
    rw [L_extract, L_B, L_B, he, List.drop_zero, Nat.sub_zero, List.take_left' hpl]
  have x1 : ((B (encL m ++ t)).extract 236 240).toList = [99, 130, 83, 99] := by
    rw [toList_L, L_extract, L_B, he, List.drop_left' hpl]; rfl
  have x2 : (B (encL m ++ t)).extract 240 (B (encL m ++ t)).size = B (outB m.f14 ++ 255 :: t) := by
    apply ext_L
    rw [L_extract, L_B, L_B, he, ← List.append_assoc, List.drop_left' (show (preL m ++ [99, 130, 83, 99]).length = 240 by rw [List.length_append, hpl]; rfl), List.take_of_length_le (by rw [size_B]; simp only [List.length_append, hpl, List.length_cons, List.length_nil]; omega)]
  have hh : howV m.f14 = 0 := by unfold howV; rw [if_neg (by rw [h4]; decide)]
  have hp := parse_out_tail hg t
  have hb : areasV (hdV (B (preL m))) (B (outB m.f14 ++ 255 :: t)) = ([B (outB m.f14 ++ 255 :: t)], 0, m.f12, m.f13) := by
    rw [areasV_ok (by rw [hp]) (x := 0) (by rw [hp]; exact hh) (by decide), head_back hK h1 h2 h3]; rfl
  have hsz : (B (encL m ++ t)).size = (encL m).length + t.length := by rw [size_B, List.length_append]
  unfold decV
  rw [if_neg (by rw [hsz]; omega), if_neg (by rw [hsz]; omega), if_pos x1, x0, x2, hb, head_back hK h1 h2 h3]
  dsimp only
  rw [if_pos rfl, hp, if_pos rfl, drop_same h4]
theorem dec_short {s : ByteArray} (h : s.size < 240) : decV s = (zM, 3) := by
  unfold decV
  rw [if_neg (by omega), if_pos h]
theorem dec_long {s : ByteArray} (h : 65507 < s.size) : decV s = (zM, 6) := by
  unfold decV
  rw [if_pos h]
theorem dec_cookie {s : ByteArray} (h1 : s.size ≤ 65507) (h2 : 240 ≤ s.size) (h : (s.extract 236 240).toList ≠ [99, 130, 83, 99]) : decV s = (zM, 140) := by
  unfold decV
  rw [if_neg (by omega), if_neg (by omega), if_neg h]
theorem spoilt {m : S26} (hK : Kinds m) (hs : soundV m = true) (hl : (encL m).length ≤ 65507) (j : Nat) (hj : j < 4) (v : Int) (hv : v = bits .xor .u8 (([99, 130, 83, 99] : List Int).getD j 0) 1) :
    decV (XByR.setB (B (encL m)) (236 + j) v) = (zM, 140) := by
  have hpl := preL_length hs
  obtain ⟨h1, h2, h3, h4, h5⟩ := soundV_iff.1 hs
  have hlen := encL_length hs (emitV_good hK.2.2.2.2.2.2.2.2.2 h5).1
  have hL : L (XByR.setB (B (encL m)) (236 + j) v) = preL m ++ (([99, 130, 83, 99] : List UInt8).set j (UInt8.ofNat v.toNat) ++ (outB m.f14 ++ [255])) := by
    show ((encL m).toArray.setIfInBounds (236 + j) (UInt8.ofNat v.toNat)).toList = _
    rw [Array.toList_setIfInBounds, encL_pre, List.set_append_right _ _ (by omega), hpl, show 236 + j - 236 = j by omega, List.set_append_left _ _ (by simpa using hj)]
  refine dec_cookie (by rw [XByR.size_setB, size_B]; exact hl) (by rw [XByR.size_setB, size_B]; omega) ?_
  rw [toList_L, L_extract, hL, List.drop_left' hpl]
  subst hv
  intro h
  have h' : ([99, 130, 83, 99] : List UInt8).set j (UInt8.ofNat (bits .xor .u8 (([99, 130, 83, 99] : List Int).getD j 0) 1).toNat) = [99, 130, 83, 99] := by
    rw [show 240 - 236 = (([99, 130, 83, 99] : List UInt8).set j (UInt8.ofNat (bits .xor .u8 (([99, 130, 83, 99] : List Int).getD j 0) 1).toNat)).length by simp, List.take_left' rfl] at h
    exact h
  revert h'
  obtain rfl | rfl | rfl | rfl : j = 0 ∨ j = 1 ∨ j = 2 ∨ j = 3 := by omega
  all_goals decide +kernel
theorem cookie_at {m : S26} (hs : soundV m = true) (j : Nat) (hj : j < 4) : (bytesOf (B (encL m))).getD (236 + j) 0 = ([99, 130, 83, 99] : List Int).getD j 0 := by
  have hpl := preL_length hs
  show ((encL m).map (fun x => (x.toNat : Int))).getD (236 + j) 0 = _
  rw [encL_pre, List.map_append, List.getD_eq_getElem?_getD, List.getElem?_append_right (by rw [List.length_map]; omega), List.length_map, hpl, show 236 + j - 236 = j by omega]
  obtain rfl | rfl | rfl | rfl : j = 0 ∨ j = 1 ∨ j = 2 ∨ j = 3 := by omega
  all_goals rfl
end Go.Proofs.Ytdhmlenmnobmfaa.W4
