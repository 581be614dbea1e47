/- digest.CRC's sum as a sum over numbers: plain. No condition. Own text. -/
import Derived.Test.YtjpcokifadaedaaDoorXCrc
import Derived.Test.YtjpcokifadaedaaDoorXD6
set_option linter.unusedVariables false
namespace Go.Proofs.YtjpcokifadaedaaDoor.X
open Go Go.RowKit Go.Proofs.YtjpcokifadaedaaDoorW.PrintWords Go.Proofs.YtjpcokifadaedaaDoorW.PrintLast Go.Proofs.YtjpcokifadaedaaDoorW.PrintMore
theorem bx32 (a b : Nat) (ha : a < 4294967296) (hb : b < 4294967296) : Go.bits .xor .u32 (a : Int) (b : Int) = ((a ^^^ b : Nat) : Int) := by
  have hx : a ^^^ b < 2 ^ 32 := Nat.xor_lt_two_pow (by omega) (by omega)
  have h1 : (BitVec.ofInt 32 (a : Int)).toNat = a := by
    rw [BitVec.ofInt_natCast, BitVec.toNat_ofNat]; exact Nat.mod_eq_of_lt (by omega)
  have h2 : (BitVec.ofInt 32 (b : Int)).toNat = b := by
    rw [BitVec.ofInt_natCast, BitVec.toNat_ofNat]; exact Nat.mod_eq_of_lt (by omega)
  show IntKind.u32.wrap ((BitVec.ofInt 32 (a : Int) ^^^ BitVec.ofInt 32 (b : Int)).toNat : Int) = _
  rw [BitVec.toNat_xor, h1, h2, IntKind.wrap_u32]
  omega
theorem bx8 (a b : Nat) (ha : a < 256) (hb : b < 256) : Go.bits .xor .u8 (a : Int) (b : Int) = ((a ^^^ b : Nat) : Int) := by
  have hx : a ^^^ b < 2 ^ 8 := Nat.xor_lt_two_pow (by omega) (by omega)
  have h1 : (BitVec.ofInt 8 (a : Int)).toNat = a := by
    rw [BitVec.ofInt_natCast, BitVec.toNat_ofNat]; exact Nat.mod_eq_of_lt (by omega)
  have h2 : (BitVec.ofInt 8 (b : Int)).toNat = b := by
    rw [BitVec.ofInt_natCast, BitVec.toNat_ofNat]; exact Nat.mod_eq_of_lt (by omega)
  show IntKind.u8.wrap ((BitVec.ofInt 8 (a : Int) ^^^ BitVec.ofInt 8 (b : Int)).toNat : Int) = _
  rw [BitVec.toNat_xor, h1, h2, IntKind.wrap_u8]
  omega
theorem ba32 (a b : Nat) (ha : a < 4294967296) (hb : b < 4294967296) : Go.bits .and .u32 (a : Int) (b : Int) = ((a &&& b : Nat) : Int) :=
  (bits_nat .u32 32 (Nat.le_refl _) (fun n h0 h1 => by rw [IntKind.wrap_u32]; omega) a b (by omega) (by omega)).1
theorem crcS_nat (r : Nat) (h : r < 4294967296) : crcS (r : Int) = ((Crc.step r : Nat) : Int) := by
  unfold crcS Crc.step
  have h1 : Go.bits .and .u32 (r : Int) 1 = ((r % 2 : Nat) : Int) := by
    rw [show (1 : Int) = ((1 : Nat) : Int) from rfl, ba32 r 1 h (by decide), Nat.and_one_is_mod]
  rw [h1, show (r : Int) / 2 = ((r / 2 : Nat) : Int) by omega]
  by_cases c : r % 2 = 1
  · rw [if_pos c, c, show (-((1 : Nat) : Int)) % 4294967296 = ((4294967295 : Nat) : Int) by decide, show (3988292384 : Int) = ((3988292384 : Nat) : Int) from rfl, ba32 _ _ (by decide) (by decide), bx32 _ _ (by omega) (by decide)]
    rfl
  · have c0 : r % 2 = 0 := by omega
    rw [if_neg c, c0, show (-((0 : Nat) : Int)) % 4294967296 = ((0 : Nat) : Int) by decide, show (3988292384 : Int) = ((3988292384 : Nat) : Int) from rfl, ba32 _ _ (by decide) (by decide), bx32 _ _ (by omega) (by decide)]
    simp
theorem crcN_nat : ∀ (n r : Nat), r < 4294967296 → crcN n (r : Int) = ((Crc.steps n r : Nat) : Int)
  | 0, r, _ => rfl
  | n + 1, r, h => by
    rw [crcN, crcS_nat r h, crcN_nat n (Crc.step r) (Crc.step_lt h)]
    rfl
def natsOf (s : ByteArray) : List Nat := s.data.toList.map (·.toNat)
theorem natsOf_lt (s : ByteArray) : ∀ c ∈ natsOf s, c < 256 := fun c hc => by
  obtain ⟨b, _, rfl⟩ := List.mem_map.1 hc
  exact b.toNat_lt
theorem natsOf_length (s : ByteArray) : (natsOf s).length = s.size := by
  rw [natsOf, List.length_map]
  exact data_length s
theorem bytesOf_nats (s : ByteArray) : bytesOf s = (natsOf s).map (fun n : Nat => (n : Int)) := by
  simp [bytesOf, natsOf, Function.comp_def]
theorem crcL_nat : ∀ (l : List Nat) (r : Nat), (∀ c ∈ l, c < 256) → r < 4294967296 → crcL (l.map fun n : Nat => (n : Int)) (r : Int) = ((Crc.row l r : Nat) : Int)
  | [], r, _, _ => rfl
  | c :: l, r, hl, h => by
    have hc : c < 256 := hl c (by simp)
    rw [List.map_cons, crcL, bx32 r c h (by omega), crcN_nat 8 _ (Crc.xor_lt (n := 32) h (by omega))]
    exact crcL_nat l _ (fun x hx => hl x (by simp [hx])) (Crc.steps_lt 8 (Crc.xor_lt (n := 32) h (by omega)))
theorem crcV_nat (s : ByteArray) : crcV s = ((Crc.crc (natsOf s) : Nat) : Int) := by
  unfold crcV Crc.crc
  rw [bytesOf_nats, show (4294967295 : Int) = ((4294967295 : Nat) : Int) from rfl, crcL_nat _ _ (natsOf_lt s) (by decide), bx32 _ _ (by decide) (Crc.row_lt _ _ (natsOf_lt s) (by decide)), Nat.xor_comm]
theorem getD_nats (s : ByteArray) (i : Nat) : (bytesOf s).getD i 0 = (((natsOf s).getD i 0 : Nat) : Int) := by
  rw [bytesOf_nats, List.getD_eq_getElem?_getD, List.getD_eq_getElem?_getD, List.getElem?_map]
  cases (natsOf s)[i]? <;> rfl
theorem nats_set (s : ByteArray) (i v : Nat) (hv : v < 256) : natsOf (XByR.setB s i (v : Int)) = (natsOf s).set i v := by
  unfold natsOf XByR.setB
  simp only [Array.toList_setIfInBounds, List.map_set]
  congr 1
  show (UInt8.ofNat v).toNat = v
  simp
  omega
theorem getD_lt (s : ByteArray) (i : Nat) : (natsOf s).getD i 0 < 256 := by
  rw [List.getD_eq_getElem?_getD]
  cases h : (natsOf s)[i]? with
  | none => decide
  | some v => exact natsOf_lt s v (List.mem_of_getElem? h)
theorem xorN_nats (s b : ByteArray) : ∀ n, natsOf (xorN s b n) = List.zipWith (· ^^^ ·) ((natsOf s).take n) ((natsOf b).take n) ++ (natsOf s).drop n ∨ b.size < n ∨ s.size < n
  | 0 => .inl (by simp [xorN])
  | n + 1 => by
    by_cases hb : b.size < n + 1
    · exact .inr (.inl hb)
    by_cases hs : s.size < n + 1
    · exact .inr (.inr hs)
    rcases xorN_nats s b n with ih | h | h
    · refine .inl ?_
      have hls : n < (natsOf s).length := by rw [natsOf_length]; omega
      have hlb : n < (natsOf b).length := by rw [natsOf_length]; omega
      have hzl : (List.zipWith (· ^^^ ·) ((natsOf s).take n) ((natsOf b).take n)).length = n := by
        rw [List.length_zipWith, List.length_take, List.length_take]; omega
      have hg : (natsOf (xorN s b n)).getD n 0 = (natsOf s).getD n 0 := by
        rw [ih, List.getD_eq_getElem?_getD, List.getElem?_append_right (by omega), hzl, Nat.sub_self, List.getElem?_drop, Nat.add_zero, ← List.getD_eq_getElem?_getD]
      rw [xorN, getD_nats, getD_nats, bx8 _ _ (getD_lt _ _) (getD_lt _ _), nats_set _ _ _ (Crc.xor_lt (n := 8) (getD_lt _ _) (getD_lt _ _)), hg, ih]
      rw [List.drop_eq_getElem_cons hls, List.set_append_right _ _ (by omega), hzl, Nat.sub_self, List.set_cons_zero]
      rw [List.take_succ_eq_append_getElem hls, List.take_succ_eq_append_getElem hlb, List.zipWith_append (by rw [List.length_take, List.length_take]; omega)]
      rw [List.append_assoc]
      congr 1
      simp [List.getD_eq_getElem?_getD, List.getElem?_eq_getElem hls, List.getElem?_eq_getElem hlb]
    · exact .inr (.inl (by omega))
    · exact .inr (.inr (by omega))
theorem xor_nats (s b : ByteArray) (h : s.size = b.size) : natsOf (tenancylaw05_xor.f s b) = List.zipWith (· ^^^ ·) (natsOf s) (natsOf b) := by
  unfold tenancylaw05_xor.f
  rcases xorN_nats s b s.size with h1 | h1 | h1
  · rw [h1, List.take_of_length_le (by rw [natsOf_length]; exact Nat.le_refl _), List.take_of_length_le (by rw [natsOf_length]; omega), List.drop_of_length_le (by rw [natsOf_length]; exact Nat.le_refl _), List.append_nil]
  · omega
  · omega
theorem lin_true (a b c : ByteArray) (h1 : a.size = b.size) (h2 : b.size = c.size) : linP a b c := by
  unfold linP
  have hx : (tenancylaw05_xor.f a b).size = c.size := by rw [xor_size]; omega
  have hlt : ∀ s, Crc.crc (natsOf s) < 4294967296 := fun s => Crc.xor_lt (n := 32) (Crc.row_lt _ _ (natsOf_lt s) (by decide)) (by decide)
  rw [crcV_nat, crcV_nat, crcV_nat, crcV_nat, xor_nats _ _ hx, xor_nats _ _ h1, bx32 _ _ (hlt a) (hlt b), bx32 _ _ (Crc.xor_lt (n := 32) (hlt a) (hlt b)) (hlt c)]
  rw [Crc.crc_linear (natsOf a) (natsOf b) (natsOf c) (by rw [natsOf_length, natsOf_length]; exact h1) (by rw [natsOf_length, natsOf_length]; exact h2)]
end Go.Proofs.YtjpcokifadaedaaDoor.X
