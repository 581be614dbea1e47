/- Strings as lists of bytes; octet.Cut: plain lemmas; conditions: a string is within the form's reach. -/
import Derived.Test.YtphmbndnejhbfaaX2
import Derived.Laws.BitsAllLaws
import Derived.Lib.Strings
set_option linter.unusedVariables false
set_option linter.unusedSimpArgs false
namespace Go.Proofs.Ytphmbndnejhbfaa.Oct
open Go.RowKit Go.Proofs.YtphmbndnejhbfaaW.PrintWords Go.Proofs.YtphmbndnejhbfaaW.PrintLast Go.Proofs.YtphmbndnejhbfaaW.PrintMore Go.Proofs.Ytphmbndnejhbfaa.X

/-- A string out of its bytes. -/
def B (l : List UInt8) : ByteArray := ⟨l.toArray⟩
/-- A string's bytes. -/
def L (s : ByteArray) : List UInt8 := s.data.toList
theorem L_B (l : List UInt8) : L (B l) = l := rfl
theorem B_L (s : ByteArray) : B (L s) = s := rfl
theorem toList_L (s : ByteArray) : s.toList = L s := ByteArray.toList_eq s
theorem size_L (s : ByteArray) : s.size = (L s).length := rfl
theorem L_append (a b : ByteArray) : L (a ++ b) = L a ++ L b := by simp [L, ByteArray.data_append]
theorem B_append (a b : List UInt8) : B a ++ B b = B (a ++ b) := by
  rw [← B_L (B a ++ B b), L_append, L_B, L_B]
theorem L_extract (s : ByteArray) (a b : Nat) : L (s.extract a b) = ((L s).drop a).take (b - a) := Lib.extract_data s a b
theorem ext_L {a b : ByteArray} (h : L a = L b) : a = b := by rw [← B_L a, ← B_L b, h]
theorem size_B (l : List UInt8) : (B l).size = l.length := rfl
/-- A number's low byte. -/
def b8 (n : Int) : UInt8 := UInt8.ofNat (n % 256).toNat
theorem b8_nat (n : Int) : ((b8 n).toNat : Int) = n % 256 := by
  unfold b8
  rw [UInt8.toNat_ofNat']
  omega
theorem ofNat_toNat_b8 (n : Int) : UInt8.ofNat (n % 256).toNat = b8 n := rfl
theorem b8_mod (n : Int) : b8 (n % 256) = b8 n := by unfold b8; rw [Int.emod_emod]
theorem b8_byte (c : UInt8) : b8 (c.toNat : Int) = c := by
  unfold b8
  have h := c.toNat_lt
  rw [show ((c.toNat : Int) % 256).toNat = c.toNat by omega]
  exact UInt8.ofNat_toNat
theorem b8_inj {a b : Int} (h : b8 a = b8 b) : a % 256 = b % 256 := by
  rw [← b8_nat, ← b8_nat, h]
theorem strOfNums_B (l : List Int) (h : ∀ x ∈ l, 0 ≤ x ∧ x < 256) : strOfNums l = B (l.map b8) := by
  unfold strOfNums B
  congr 2
  apply List.map_congr_left
  intro x hx
  obtain ⟨h0, h1⟩ := h x hx
  unfold b8
  rw [Int.emod_eq_of_lt h0 h1]
/-- The bytes of numbers, the highest first. -/
def be2 (a : Int) : List UInt8 := [b8 (a / 256), b8 a]
def be4 (a : Int) : List UInt8 := [b8 (a / 16777216), b8 (a / 65536), b8 (a / 256), b8 a]
def be8 (a : Int) : List UInt8 := [b8 (a / 72057594037927936), b8 (a / 281474976710656), b8 (a / 1099511627776), b8 (a / 4294967296), b8 (a / 16777216), b8 (a / 65536), b8 (a / 256), b8 a]

theorem w64 {n : Int} (h : -9223372036854775808 ≤ n ∧ n ≤ 9223372036854775807) : wrap64 n = n := by unfold wrap64; omega

theorem wf_i64 {n : Int} (h : (Lit.int .i64 n).wf = true) : -9223372036854775808 ≤ n ∧ n ≤ 9223372036854775807 := by
  simpa [Lit.wf, IntKind.min, IntKind.max, IntKind.bits, IntKind.signed] using h
theorem wf_u64 {n : Int} (h : (Lit.int .u64 n).wf = true) : 0 ≤ n ∧ n < 18446744073709551616 := by
  have h : 0 ≤ n ∧ n ≤ 18446744073709551615 := by simpa [Lit.wf, IntKind.min, IntKind.max, IntKind.bits, IntKind.signed] using h
  omega
theorem wf_u32 {n : Int} (h : (Lit.int .u32 n).wf = true) : 0 ≤ n ∧ n < 4294967296 := by
  have h : 0 ≤ n ∧ n ≤ 4294967295 := by simpa [Lit.wf, IntKind.min, IntKind.max, IntKind.bits, IntKind.signed] using h
  omega
theorem wf_u16 {n : Int} (h : (Lit.int .u16 n).wf = true) : 0 ≤ n ∧ n < 65536 := by
  have h : 0 ≤ n ∧ n ≤ 65535 := by simpa [Lit.wf, IntKind.min, IntKind.max, IntKind.bits, IntKind.signed] using h
  omega
theorem wf_u8 {n : Int} (h : (Lit.int .u8 n).wf = true) : 0 ≤ n ∧ n < 256 := by
  have h : 0 ≤ n ∧ n ≤ 255 := by simpa [Lit.wf, IntKind.min, IntKind.max, IntKind.bits, IntKind.signed] using h
  omega

/-- The number that bytes are, the highest first. -/
def num (l : List UInt8) : Int := l.foldl (fun x c => x * 256 + (c.toNat : Int)) 0
theorem num_from (l : List UInt8) : ∀ x : Int, l.foldl (fun x c => x * 256 + (c.toNat : Int)) x = x * 256 ^ l.length + num l := by
  unfold num
  induction l with
  | nil => intro x; simp
  | cons c l ih =>
    intro x
    rw [List.foldl_cons, List.foldl_cons, ih, ih (0 * 256 + (c.toNat : Int)), List.length_cons, Int.pow_succ, Int.zero_mul, Int.zero_add]
    rw [Int.add_mul, Int.mul_assoc, Int.mul_comm 256 ((256 : Int) ^ l.length)]
    omega
theorem num_cons (c : UInt8) (l : List UInt8) : num (c :: l) = (c.toNat : Int) * 256 ^ l.length + num l := by
  have := num_from l (c.toNat : Int)
  unfold num
  rw [List.foldl_cons, show (0 : Int) * 256 + (c.toNat : Int) = (c.toNat : Int) by omega, this]
  rfl
theorem num_nil : num [] = 0 := rfl
theorem num_range (l : List UInt8) : 0 ≤ num l ∧ num l < 256 ^ l.length := by
  induction l with
  | nil => simp [num]
  | cons c l ih =>
    rw [num_cons, List.length_cons, Int.pow_succ]
    have h := c.toNat_lt
    have h0 : (c.toNat : Int) ≤ 255 := by omega
    have hp : (0 : Int) < 256 ^ l.length := Int.pow_pos (by omega)
    have h1 : (c.toNat : Int) * 256 ^ l.length ≤ 255 * 256 ^ l.length := Int.mul_le_mul_of_nonneg_right h0 (Int.le_of_lt hp)
    have h2 : 0 ≤ (c.toNat : Int) * 256 ^ l.length := Int.mul_nonneg (by omega) (Int.le_of_lt hp)
    omega
theorem num_append (a b : List UInt8) : num (a ++ b) = num a * 256 ^ b.length + num b := by
  have := num_from b (num a)
  unfold num at this ⊢
  rw [List.foldl_append, this]
theorem num_be2 (a : Int) (h0 : 0 ≤ a) (h1 : a < 65536) : num (be2 a) = a := by
  simp [be2, num, b8_nat]
  omega
theorem num_be4 (a : Int) (h0 : 0 ≤ a) (h1 : a < 4294967296) : num (be4 a) = a := by
  simp [be4, num, b8_nat]
  omega
theorem num_be8 (a : Int) (h0 : 0 ≤ a) (h1 : a < 18446744073709551616) : num (be8 a) = a := by
  simp [be8, num, b8_nat]
  omega
theorem be2_num (x y : UInt8) : be2 (num [x, y]) = [x, y] := by
  have hx := x.toNat_lt
  have hy := y.toNat_lt
  have e : num [x, y] = (x.toNat : Int) * 256 + (y.toNat : Int) := by simp [num]
  rw [e, be2, ← b8_mod ((x.toNat : Int) * 256 + _), show ((x.toNat : Int) * 256 + (y.toNat : Int)) / 256 = (x.toNat : Int) by omega, show ((x.toNat : Int) * 256 + (y.toNat : Int)) % 256 = (y.toNat : Int) by omega, b8_byte, b8_byte]
/-- A fold that wraps at each step wraps once. -/
theorem fold_mod (M : Int) (l : List UInt8) : ∀ x : Int, l.foldl (fun x c => (x * 256 + (c.toNat : Int)) % M) (x % M) = (l.foldl (fun x c => x * 256 + (c.toNat : Int)) x) % M := by
  induction l with
  | nil => intro x; rfl
  | cons c l ih =>
    intro x
    rw [List.foldl_cons, List.foldl_cons, ← ih]
    congr 1
    rw [Int.add_emod, Int.mul_emod, Int.emod_emod, ← Int.mul_emod, ← Int.add_emod]

/-- A piece: n bytes from at on; or nothing. -/
def cutB (l : List UInt8) (at_ n : Int) : Bool := decide (0 ≤ at_ ∧ 0 ≤ n ∧ at_ + n ≤ l.length)
def cutL (l : List UInt8) (at_ n : Int) : List UInt8 := if cutB l at_ n = true then (l.drop at_.toNat).take n.toNat else []
theorem cutL_length (l : List UInt8) (at_ n : Int) : (cutL l at_ n).length = if cutB l at_ n = true then n.toNat else 0 := by
  unfold cutL
  split
  · rename_i h
    simp only [cutB, decide_eq_true_eq] at h
    rw [List.length_take, List.length_drop]
    omega
  · rfl
theorem mn_lt (a b : Int) : mn a b < 0 ↔ a < 0 ∨ b < 0 := by unfold mn; split <;> omega
theorem cut (s : ByteArray) (at_ n : Int) (hs : s.size ≤ 4611686018427387904) (ha : -9223372036854775808 ≤ at_ ∧ at_ ≤ 9223372036854775807) (hn : -9223372036854775808 ≤ n ∧ n ≤ 9223372036854775807) :
    octet_Cut.f s at_ n = some (B (cutL (L s) at_ n), cutB (L s) at_ n) := by
  unfold octet_Cut.f cutL
  have hl : ((L s).length : Int) = s.size := by rw [size_L]
  by_cases h1 : mn at_ n < 0
  · rw [if_pos h1]
    have h1' := (mn_lt _ _).1 h1
    have hb : cutB (L s) at_ n = false := by simp only [cutB, decide_eq_false_iff_not]; omega
    rw [hb]; rfl
  · rw [if_neg h1]
    have h1' : ¬ (at_ < 0 ∨ n < 0) := fun h => h1 ((mn_lt _ _).2 h)
    by_cases h2 : at_ > (s.size : Int)
    · rw [if_pos h2]
      have hb : cutB (L s) at_ n = false := by simp only [cutB, decide_eq_false_iff_not]; omega
      rw [hb]; rfl
    · rw [if_neg h2, w64 (by omega)]
      by_cases h3 : n > (s.size : Int) - at_
      · rw [if_pos h3]
        have hb : cutB (L s) at_ n = false := by simp only [cutB, decide_eq_false_iff_not]; omega
        rw [hb]; rfl
      · have hb : cutB (L s) at_ n = true := by simp only [cutB, decide_eq_true_eq]; omega
        have he : (s.extract at_.toNat s.size).size = s.size - at_.toNat := by rw [ByteArray.size_extract, Nat.min_self]
        rw [if_neg h3, if_pos (by omega), if_pos (by omega), if_pos (by omega), if_pos (by rw [he]; omega), hb, if_pos rfl]
        refine congrArg some (Prod.ext ?_ rfl)
        apply ext_L
        rw [L_extract, L_extract, L_B, List.drop_zero, Nat.sub_zero, List.take_take]
        congr 1
        omega
theorem bytesOf_L (s : ByteArray) : bytesOf s = (L s).map fun c => (c.toNat : Int) := rfl
theorem rd_at (l : List UInt8) (i : Nat) (h : i < l.length) : rd (l.map fun c => (c.toNat : Int)) (i : Int) = (l[i].toNat : Int) := by
  simp [rd, List.getD_eq_getElem?_getD, h]
theorem bt_L (s : ByteArray) (i : Nat) (h : i < (L s).length) : bt s (i : Int) = ((L s)[i].toNat : Int) := by
  rw [← rd_bytesOf, bytesOf_L, rd_at]

end Go.Proofs.Ytphmbndnejhbfaa.Oct
