/- The reference's sum of 32 bits is the sum over numbers: plain. No condition. Own text. -/
import Derived.Test.YtjpcokifadaedaaDoorXCrcL
set_option linter.unusedVariables false
namespace Go.Proofs.YtjpcokifadaedaaDoor.X
open Go Go.RowKit Go.Proofs.YtjpcokifadaedaaDoorW.PrintWords Go.Proofs.YtjpcokifadaedaaDoorW.PrintLast Go.Proofs.YtjpcokifadaedaaDoorW.PrintMore
theorem crcRef_l1 (s : ByteArray) (i : Int) : ∀ (m j k r : Nat), j + m = 8 → r < 4294967296 → tenancyref05_CRC.l1 (k + m + 1) s (r : Int) i (j : Int) = tenancyref05_CRC.l0 k s ((Crc.steps m r : Nat) : Int) (wrap64 (i + 1))
  | 0, j, k, r, hj, hr => by
    rw [Nat.add_zero, tenancyref05_CRC.l1, if_neg (by omega)]
    rfl
  | m + 1, j, k, r, hj, hr => by
    rw [← Nat.add_assoc, tenancyref05_CRC.l1, if_pos (by omega)]
    have hw : wrap64 ((j : Int) + 1) = ((j + 1 : Nat) : Int) := by rw [Go.IntWalk.wrap64_in _ (by omega)]; omega
    have hm : Int.tmod (r : Int) 2 = ((r % 2 : Nat) : Int) := tmod_nat r 2
    have hd : Int.tdiv (r : Int) 2 % 4294967296 = ((r / 2 : Nat) : Int) := by rw [show Int.tdiv (r : Int) 2 = ((r / 2 : Nat) : Int) from tdiv_nat r 2]; omega
    rw [hw, hm, hd]
    have hs : Crc.steps (m + 1) r = Crc.steps m (Crc.step r) := rfl
    rw [hs]
    by_cases c : r % 2 = 1
    · rw [if_pos (by omega), show (3988292384 : Int) = ((3988292384 : Nat) : Int) from rfl, bx32 _ _ (by omega) (by decide)]
      have e : Crc.step r = (r / 2) ^^^ 3988292384 := by unfold Crc.step; rw [if_pos c]
      rw [← e]
      exact crcRef_l1 s i m (j + 1) k _ (by omega) (Crc.step_lt hr)
    · rw [if_neg (by omega)]
      have e : Crc.step r = r / 2 := by unfold Crc.step; rw [if_neg c]
      rw [← e]
      exact crcRef_l1 s i m (j + 1) k _ (by omega) (Crc.step_lt hr)
theorem bt_nats (s : ByteArray) (i : Nat) (h : i < s.size) : bt s (i : Int) = (((natsOf s).getD i 0 : Nat) : Int) := by
  have hl : i < s.data.toList.length := by rw [data_length]; exact h
  unfold bt
  rw [dif_pos (by simpa using h), natsOf, List.getD_eq_getElem?_getD, List.getElem?_map, List.getElem?_eq_getElem hl]
  rfl
theorem nats_at (s : ByteArray) (i : Nat) (h : i < s.size) : (natsOf s).drop i = (natsOf s).getD i 0 :: (natsOf s).drop (i + 1) := by
  have hl : i < (natsOf s).length := by rw [natsOf_length]; exact h
  rw [List.drop_eq_getElem_cons hl, List.getD_eq_getElem?_getD, List.getElem?_eq_getElem hl]
  rfl
theorem crcRef_l0 (s : ByteArray) (hs : s.size ≤ 140737488355328) : ∀ (m i r : Nat), i + m = s.size → r < 4294967296 → tenancyref05_CRC.l0 (10 * m + 1) s (r : Int) (i : Int) = some ((Crc.row ((natsOf s).drop i) r ^^^ 4294967295 : Nat) : Int)
  | 0, i, r, hi, hr => by
    rw [Nat.mul_zero, tenancyref05_CRC.l0, if_neg (by omega), List.drop_eq_nil_of_le (by rw [natsOf_length]; omega), show (4294967295 : Int) = ((4294967295 : Nat) : Int) from rfl, bx32 _ _ hr (by decide)]
    rfl
  | m + 1, i, r, hi, hr => by
    have hb := bt_nats s i (by omega)
    have hc : (natsOf s).getD i 0 < 256 := getD_lt s i
    rw [show 10 * (m + 1) + 1 = ((10 * m + 1) + 8 + 1) + 1 by omega, tenancyref05_CRC.l0, if_pos (by omega), if_pos (by omega), hb, nats_at s i (by omega)]
    generalize (natsOf s).getD i 0 = c at hc
    rw [show ((c : Int) % 4294967296) = (c : Int) by omega, bx32 r c hr (by omega)]
    have hx : r ^^^ c < 4294967296 := Crc.xor_lt (n := 32) hr (by omega)
    have hw : wrap64 ((i : Int) + 1) = ((i + 1 : Nat) : Int) := by rw [Go.IntWalk.wrap64_in _ (by omega)]; omega
    rw [show (0 : Int) = ((0 : Nat) : Int) from rfl, crcRef_l1 s (i : Int) 8 0 (10 * m + 1) (r ^^^ c) rfl hx, hw, crcRef_l0 s hs m (i + 1) _ (by omega) (Crc.steps_lt 8 hx)]
    rfl
theorem crcRef_eq (s : ByteArray) (hs : s.size ≤ 140737488355328) : tenancyref05_CRC.f (10 * s.size + 1) s = some (crcV s) ∧ digest_CRC.f s = some (crcV s) := by
  refine ⟨?_, ?_⟩
  · unfold tenancyref05_CRC.f
    rw [crcV_nat, show (0 : Int) = ((0 : Nat) : Int) from rfl, show (4294967295 : Int) = ((4294967295 : Nat) : Int) from rfl, crcRef_l0 s hs s.size 0 4294967295 (by omega) (by decide)]
    rfl
  · unfold digest_CRC.f
    rw [if_pos hs]
    rfl
end Go.Proofs.YtjpcokifadaedaaDoor.X
