/- The program's octets as lists of bytes: plain lemmas; conditions: a string is within the form's reach. -/
import Derived.Test.YtngojiikkokajaaG0
import Derived.Test.YtngojiikkokajaaG1
import Derived.Test.YtngojiikkokajaaG2
import Derived.Test.YtngojiikkokajaaG3
import Derived.Test.YtngojiikkokajaaG4
import Derived.Test.YtngojiikkokajaaG5
import Derived.Laws.BitsAllLaws
import Derived.Lib.Strings
set_option linter.unusedVariables false
set_option linter.unusedSimpArgs false
namespace Go.Proofs.Ytngojiikkokajaa.Oct
open Go.RowKit Go.Proofs.YtngojiikkokajaaW.PrintWords Go.Proofs.YtngojiikkokajaaW.PrintLast Go.Proofs.YtngojiikkokajaaW.PrintMore Go.Proofs.Ytngojiikkokajaa.X

/-- A string out of its bytes. -/
def B (l : List UInt8) : ByteArray := ⟨l.toArray⟩
/-- A string's bytes. -/
def L (s : ByteArray) : List UInt8 := s.data.toList
theorem L_B (l : List UInt8) : L (B l) = l := rfl
theorem B_L (s : ByteArray) : B (L s) = s := rfl
theorem toList_L (s : ByteArray) : s.toList = L s := ByteArray.toList_eq s
theorem size_L (s : ByteArray) : s.size = (L s).length := rfl
theorem L_append (a b : ByteArray) : L (a ++ b) = L a ++ L b := by simp [L, ByteArray.data_append]
theorem B_append (a b : List UInt8) : B a ++ B b = B (a ++ b) := by
  rw [← B_L (B a ++ B b), L_append, L_B, L_B]
theorem L_extract (s : ByteArray) (a b : Nat) : L (s.extract a b) = ((L s).drop a).take (b - a) := Lib.extract_data s a b
theorem ext_L {a b : ByteArray} (h : L a = L b) : a = b := by rw [← B_L a, ← B_L b, h]
theorem size_B (l : List UInt8) : (B l).size = l.length := rfl
/-- A number's low byte. -/
def b8 (n : Int) : UInt8 := UInt8.ofNat (n % 256).toNat
theorem b8_nat (n : Int) : ((b8 n).toNat : Int) = n % 256 := by
  unfold b8
  rw [UInt8.toNat_ofNat']
  omega
theorem ofNat_toNat_b8 (n : Int) : UInt8.ofNat (n % 256).toNat = b8 n := rfl
theorem b8_mod (n : Int) : b8 (n % 256) = b8 n := by unfold b8; rw [Int.emod_emod]
theorem b8_byte (c : UInt8) : b8 (c.toNat : Int) = c := by
  unfold b8
  have h := c.toNat_lt
  rw [show ((c.toNat : Int) % 256).toNat = c.toNat by omega]
  exact UInt8.ofNat_toNat
theorem b8_inj {a b : Int} (h : b8 a = b8 b) : a % 256 = b % 256 := by
  rw [← b8_nat, ← b8_nat, h]
theorem strOfNums_B (l : List Int) (h : ∀ x ∈ l, 0 ≤ x ∧ x < 256) : strOfNums l = B (l.map b8) := by
  unfold strOfNums B
  congr 2
  apply List.map_congr_left
  intro x hx
  obtain ⟨h0, h1⟩ := h x hx
  unfold b8
  rw [Int.emod_eq_of_lt h0 h1]
/-- The bytes of numbers, the highest first. -/
def be2 (a : Int) : List UInt8 := [b8 (a / 256), b8 a]
def be4 (a : Int) : List UInt8 := [b8 (a / 16777216), b8 (a / 65536), b8 (a / 256), b8 a]
def be8 (a : Int) : List UInt8 := [b8 (a / 72057594037927936), b8 (a / 281474976710656), b8 (a / 1099511627776), b8 (a / 4294967296), b8 (a / 16777216), b8 (a / 65536), b8 (a / 256), b8 a]

theorem w64 {n : Int} (h : -9223372036854775808 ≤ n ∧ n ≤ 9223372036854775807) : wrap64 n = n := by unfold wrap64; omega

theorem wf_i64 {n : Int} (h : (Lit.int .i64 n).wf = true) : -9223372036854775808 ≤ n ∧ n ≤ 9223372036854775807 := by
  simpa [Lit.wf, IntKind.min, IntKind.max, IntKind.bits, IntKind.signed] using h
theorem wf_u64 {n : Int} (h : (Lit.int .u64 n).wf = true) : 0 ≤ n ∧ n < 18446744073709551616 := by
  have h : 0 ≤ n ∧ n ≤ 18446744073709551615 := by simpa [Lit.wf, IntKind.min, IntKind.max, IntKind.bits, IntKind.signed] using h
  omega
theorem wf_u32 {n : Int} (h : (Lit.int .u32 n).wf = true) : 0 ≤ n ∧ n < 4294967296 := by
  have h : 0 ≤ n ∧ n ≤ 4294967295 := by simpa [Lit.wf, IntKind.min, IntKind.max, IntKind.bits, IntKind.signed] using h
  omega
theorem wf_u16 {n : Int} (h : (Lit.int .u16 n).wf = true) : 0 ≤ n ∧ n < 65536 := by
  have h : 0 ≤ n ∧ n ≤ 65535 := by simpa [Lit.wf, IntKind.min, IntKind.max, IntKind.bits, IntKind.signed] using h
  omega
theorem wf_u8 {n : Int} (h : (Lit.int .u8 n).wf = true) : 0 ≤ n ∧ n < 256 := by
  have h : 0 ≤ n ∧ n ≤ 255 := by simpa [Lit.wf, IntKind.min, IntKind.max, IntKind.bits, IntKind.signed] using h
  omega

/-- The number that bytes are, the highest first. -/
def num (l : List UInt8) : Int := l.foldl (fun x c => x * 256 + (c.toNat : Int)) 0
theorem num_from (l : List UInt8) : ∀ x : Int, l.foldl (fun x c => x * 256 + (c.toNat : Int)) x = x * 256 ^ l.length + num l := by
  unfold num
  induction l with
  | nil => intro x; simp
  | cons c l ih =>
    intro x
    rw [List.foldl_cons, List.foldl_cons, ih, ih (0 * 256 + (c.toNat : Int)), List.length_cons, Int.pow_succ, Int.zero_mul, Int.zero_add]
    rw [Int.add_mul, Int.mul_assoc, Int.mul_comm 256 ((256 : Int) ^ l.length)]
    omega
theorem num_cons (c : UInt8) (l : List UInt8) : num (c :: l) = (c.toNat : Int) * 256 ^ l.length + num l := by
  have := num_from l (c.toNat : Int)
  unfold num
  rw [List.foldl_cons, show (0 : Int) * 256 + (c.toNat : Int) = (c.toNat : Int) by omega, this]
  rfl
theorem num_nil : num [] = 0 := rfl
theorem num_range (l : List UInt8) : 0 ≤ num l ∧ num l < 256 ^ l.length := by
  induction l with
  | nil => simp [num]
  | cons c l ih =>
    rw [num_cons, List.length_cons, Int.pow_succ]
    have h := c.toNat_lt
    have h0 : (c.toNat : Int) ≤ 255 := by omega
    have hp : (0 : Int) < 256 ^ l.length := Int.pow_pos (by omega)
    have h1 : (c.toNat : Int) * 256 ^ l.length ≤ 255 * 256 ^ l.length := Int.mul_le_mul_of_nonneg_right h0 (Int.le_of_lt hp)
    have h2 : 0 ≤ (c.toNat : Int) * 256 ^ l.length := Int.mul_nonneg (by omega) (Int.le_of_lt hp)
    omega
theorem num_append (a b : List UInt8) : num (a ++ b) = num a * 256 ^ b.length + num b := by
  have := num_from b (num a)
  unfold num at this ⊢
  rw [List.foldl_append, this]
theorem num_be2 (a : Int) (h0 : 0 ≤ a) (h1 : a < 65536) : num (be2 a) = a := by
  simp [be2, num, b8_nat]
  omega
theorem num_be4 (a : Int) (h0 : 0 ≤ a) (h1 : a < 4294967296) : num (be4 a) = a := by
  simp [be4, num, b8_nat]
  omega
theorem num_be8 (a : Int) (h0 : 0 ≤ a) (h1 : a < 18446744073709551616) : num (be8 a) = a := by
  simp [be8, num, b8_nat]
  omega
theorem be2_num (x y : UInt8) : be2 (num [x, y]) = [x, y] := by
  have hx := x.toNat_lt
  have hy := y.toNat_lt
  have e : num [x, y] = (x.toNat : Int) * 256 + (y.toNat : Int) := by simp [num]
  rw [e, be2, ← b8_mod ((x.toNat : Int) * 256 + _), show ((x.toNat : Int) * 256 + (y.toNat : Int)) / 256 = (x.toNat : Int) by omega, show ((x.toNat : Int) * 256 + (y.toNat : Int)) % 256 = (y.toNat : Int) by omega, b8_byte, b8_byte]
/-- A fold that wraps at each step wraps once. -/
theorem fold_mod (M : Int) (l : List UInt8) : ∀ x : Int, l.foldl (fun x c => (x * 256 + (c.toNat : Int)) % M) (x % M) = (l.foldl (fun x c => x * 256 + (c.toNat : Int)) x) % M := by
  induction l with
  | nil => intro x; rfl
  | cons c l ih =>
    intro x
    rw [List.foldl_cons, List.foldl_cons, ← ih]
    congr 1
    rw [Int.add_emod, Int.mul_emod, Int.emod_emod, ← Int.mul_emod, ← Int.add_emod]

/-- A piece: n bytes from at on; or nothing. -/
def cutB (l : List UInt8) (at_ n : Int) : Bool := decide (0 ≤ at_ ∧ 0 ≤ n ∧ at_ + n ≤ l.length)
def cutL (l : List UInt8) (at_ n : Int) : List UInt8 := if cutB l at_ n = true then (l.drop at_.toNat).take n.toNat else []
theorem cutL_length (l : List UInt8) (at_ n : Int) : (cutL l at_ n).length = if cutB l at_ n = true then n.toNat else 0 := by
  unfold cutL
  split
  · rename_i h
    simp only [cutB, decide_eq_true_eq] at h
    rw [List.length_take, List.length_drop]
    omega
  · rfl
theorem mn_lt (a b : Int) : mn a b < 0 ↔ a < 0 ∨ b < 0 := by unfold mn; split <;> omega
theorem cut (s : ByteArray) (at_ n : Int) (hs : s.size ≤ 4611686018427387904) (ha : -9223372036854775808 ≤ at_ ∧ at_ ≤ 9223372036854775807) (hn : -9223372036854775808 ≤ n ∧ n ≤ 9223372036854775807) :
    octet_Cut.f s at_ n = some (B (cutL (L s) at_ n), cutB (L s) at_ n) := by
  unfold octet_Cut.f cutL
  have hl : ((L s).length : Int) = s.size := by rw [size_L]
  by_cases h1 : mn at_ n < 0
  · rw [if_pos h1]
    have h1' := (mn_lt _ _).1 h1
    have hb : cutB (L s) at_ n = false := by simp only [cutB, decide_eq_false_iff_not]; omega
    rw [hb]; rfl
  · rw [if_neg h1]
    have h1' : ¬ (at_ < 0 ∨ n < 0) := fun h => h1 ((mn_lt _ _).2 h)
    by_cases h2 : at_ > (s.size : Int)
    · rw [if_pos h2]
      have hb : cutB (L s) at_ n = false := by simp only [cutB, decide_eq_false_iff_not]; omega
      rw [hb]; rfl
    · rw [if_neg h2, w64 (by omega)]
      by_cases h3 : n > (s.size : Int) - at_
      · rw [if_pos h3]
        have hb : cutB (L s) at_ n = false := by simp only [cutB, decide_eq_false_iff_not]; omega
        rw [hb]; rfl
      · have hb : cutB (L s) at_ n = true := by simp only [cutB, decide_eq_true_eq]; omega
        have he : (s.extract at_.toNat s.size).size = s.size - at_.toNat := by rw [ByteArray.size_extract, Nat.min_self]
        rw [if_neg h3, if_pos (by omega), if_pos (by omega), if_pos (by omega), if_pos (by rw [he]; omega), hb, if_pos rfl]
        refine congrArg some (Prod.ext ?_ rfl)
        apply ext_L
        rw [L_extract, L_extract, L_B, List.drop_zero, Nat.sub_zero, List.take_take]
        congr 1
        omega
theorem conv (s : ByteArray) (hs : s.size ≤ 4611686018427387904) : conv9_57.f s = some (bytesOf s) := by
  unfold conv9_57.f
  rw [if_pos (by omega)]
theorem bytesOf_L (s : ByteArray) : bytesOf s = (L s).map fun c => (c.toNat : Int) := rfl
theorem rd_at (l : List UInt8) (i : Nat) (h : i < l.length) : rd (l.map fun c => (c.toNat : Int)) (i : Int) = (l[i].toNat : Int) := by
  simp [rd, List.getD_eq_getElem?_getD, h]
theorem bt_L (s : ByteArray) (i : Nat) (h : i < (L s).length) : bt s (i : Int) = ((L s)[i].toNat : Int) := by
  unfold bt
  rw [dif_pos (show ((i : Int)).toNat < s.size by rw [size_L]; omega)]
  rfl

theorem put16 {k : Nat} (hk : 4 ≤ k) (a : Int) (h0 : 0 ≤ a) (h1 : a < 65536) : octet_put_uint16.f k a 2 = some (B (be2 a)) := by
  obtain ⟨k, rfl⟩ : ∃ m, k = m + 4 := ⟨k - 4, by omega⟩
  have e : strOfNums [a / 256 % 256, a % 256] = B (be2 a) := by
    rw [strOfNums_B _ (by intro x hx; simp at hx; omega)]
    simp [be2, b8_mod]
  rw [← e]
  simp [octet_put_uint16.f, octet_put_uint16.l0, wrap64, shr, IntKind.bits, List.replicate]
theorem put32 {k : Nat} (hk : 6 ≤ k) (a : Int) (h0 : 0 ≤ a) (h1 : a < 4294967296) : octet_put_uint32.f k a 4 = some (B (be4 a)) := by
  obtain ⟨k, rfl⟩ : ∃ m, k = m + 6 := ⟨k - 6, by omega⟩
  have e : strOfNums [a / 16777216 % 256, a / 65536 % 256, a / 256 % 256, a % 256] = B (be4 a) := by
    rw [strOfNums_B _ (by intro x hx; simp at hx; omega)]
    simp [be4, b8_mod]
  rw [← e]
  simp [octet_put_uint32.f, octet_put_uint32.l0, wrap64, shr, IntKind.bits, List.replicate]
theorem put64 {k : Nat} (hk : 10 ≤ k) (a : Int) (h0 : 0 ≤ a) (h1 : a < 18446744073709551616) : octet_put_uint64.f k a 8 = some (B (be8 a)) := by
  obtain ⟨k, rfl⟩ : ∃ m, k = m + 10 := ⟨k - 10, by omega⟩
  have e : strOfNums [a / 72057594037927936 % 256, a / 281474976710656 % 256, a / 1099511627776 % 256, a / 4294967296 % 256, a / 16777216 % 256, a / 65536 % 256, a / 256 % 256, a % 256] = B (be8 a) := by
    rw [strOfNums_B _ (by intro x hx; simp at hx; omega)]
    simp [be8, b8_mod]
  rw [← e]
  simp [octet_put_uint64.f, octet_put_uint64.l0, wrap64, shr, IntKind.bits, List.replicate]

/-- Below a byte shifted up there is room for one. -/
theorem or_step (w : Nat) (x c : Nat) (hc : c < 256) : (x * 256) % 2 ^ (w + 8) ||| c = (x * 256 + c) % 2 ^ (w + 8) := by
  have hp : (2 : Nat) ^ (w + 8) = 2 ^ w * 256 := by rw [Nat.pow_add]
  have h1 : (x * 256) % 2 ^ (w + 8) = (x % 2 ^ w) * 256 := by rw [hp, Nat.mul_mod_mul_right]
  have h2 : (x * 256 + c) % 2 ^ (w + 8) = (x % 2 ^ w) * 256 + c := by
    rw [hp, Nat.add_mod, Nat.mul_mod_mul_right]
    have h3 : x % 2 ^ w < 2 ^ w := Nat.mod_lt _ (Nat.pow_pos (by omega))
    have h4 : (x % 2 ^ w) * 256 + 256 ≤ 2 ^ w * 256 := by
      rw [← Nat.succ_mul]
      exact Nat.mul_le_mul_right _ h3
    have h5 : c % (2 ^ w * 256) = c := Nat.mod_eq_of_lt (by omega)
    rw [h5]
    exact Nat.mod_eq_of_lt (by omega)
  rw [h1, h2, show (x % 2 ^ w) * 256 = 2 ^ 8 * (x % 2 ^ w) by omega]
  exact (Nat.two_pow_add_eq_or_of_lt (i := 8) hc (x % 2 ^ w)).symm

theorem step16 (x : Int) (c : UInt8) (h0 : 0 ≤ x) (h1 : x < 65536) : Go.bits .or .u16 (IntKind.u16.wrap (x * 256)) (IntKind.u16.wrap (c.toNat : Int)) = (x * 256 + (c.toNat : Int)) % 65536 := by
  have hc := c.toNat_lt
  obtain ⟨n, rfl⟩ : ∃ n : Nat, x = (n : Int) := ⟨x.toNat, by omega⟩
  have e1 : IntKind.u16.wrap ((n : Int) * 256) = ((n * 256 % 65536 : Nat) : Int) := by simp [IntKind.wrap, IntKind.bits, IntKind.signed]
  have e2 : IntKind.u16.wrap (c.toNat : Int) = ((c.toNat : Nat) : Int) := by simp [IntKind.wrap, IntKind.bits, IntKind.signed]; omega
  rw [e1, e2, u16_or_nat _ _ (Nat.mod_lt _ (by omega)) (by omega)]
  have := or_step 8 n c.toNat (by omega)
  rw [show (2 : Nat) ^ (8 + 8) = 65536 by decide] at this
  rw [this]
  omega
theorem step32 (x : Int) (c : UInt8) (h0 : 0 ≤ x) (h1 : x < 4294967296) : Go.bits .or .u32 ((x * 256) % 4294967296) ((c.toNat : Int) % 4294967296) = (x * 256 + (c.toNat : Int)) % 4294967296 := by
  have hc := c.toNat_lt
  obtain ⟨n, rfl⟩ : ∃ n : Nat, x = (n : Int) := ⟨x.toNat, by omega⟩
  have e1 : ((n : Int) * 256) % 4294967296 = ((n * 256 % 4294967296 : Nat) : Int) := by omega
  have e2 : (c.toNat : Int) % 4294967296 = ((c.toNat : Nat) : Int) := by omega
  rw [e1, e2, u32_or_nat _ _ (Nat.mod_lt _ (by omega)) (by omega)]
  have := or_step 24 n c.toNat (by omega)
  rw [show (2 : Nat) ^ (24 + 8) = 4294967296 by decide] at this
  rw [this]
  omega
theorem step64 (x : Int) (c : UInt8) (h0 : 0 ≤ x) (h1 : x < 18446744073709551616) : Go.bits .or .u64 (IntKind.u64.wrap (x * 256)) (IntKind.u64.wrap (c.toNat : Int)) = (x * 256 + (c.toNat : Int)) % 18446744073709551616 := by
  have hc := c.toNat_lt
  obtain ⟨n, rfl⟩ : ∃ n : Nat, x = (n : Int) := ⟨x.toNat, by omega⟩
  have e1 : IntKind.u64.wrap ((n : Int) * 256) = ((n * 256 % 18446744073709551616 : Nat) : Int) := by simp [IntKind.wrap, IntKind.bits, IntKind.signed]
  have e2 : IntKind.u64.wrap (c.toNat : Int) = ((c.toNat : Nat) : Int) := by simp [IntKind.wrap, IntKind.bits, IntKind.signed]; omega
  rw [e1, e2, u64_or_nat _ _ (Nat.mod_lt _ (by omega)) (by omega)]
  have := or_step 56 n c.toNat (by omega)
  rw [show (2 : Nat) ^ (56 + 8) = 18446744073709551616 by decide] at this
  rw [this]
  omega
theorem drop_cons (l : List UInt8) (i : Nat) (h : i < l.length) : l.drop i = l[i] :: l.drop (i + 1) := List.drop_eq_getElem_cons h

theorem loop16 (l : List UInt8) (b : Bool) (hl : l.length ≤ 4611686018427387904) (d : Nat) : ∀ (k i : Nat) (x : Int), l.length - i = d → i ≤ l.length → d < k → 0 ≤ x → x < 65536 →
    octet_get_uint16.l0 k b x (l.map fun c => (c.toNat : Int)) (l.length : Int) (i : Int) = some ((l.drop i).foldl (fun x c => (x * 256 + (c.toNat : Int)) % 65536) x, b) := by
  induction d with
  | zero =>
    intro k i x hd hi hk h0 h1
    obtain ⟨k, rfl⟩ : ∃ m, k = m + 1 := ⟨k - 1, by omega⟩
    rw [octet_get_uint16.l0, if_neg (by omega), List.drop_of_length_le (by omega)]
    rfl
  | succ d ih =>
    intro k i x hd hi hk h0 h1
    obtain ⟨k, rfl⟩ : ∃ m, k = m + 1 := ⟨k - 1, by omega⟩
    have hlt : i < l.length := by omega
    rw [octet_get_uint16.l0, if_pos (by omega), if_pos (by omega), if_pos (by rw [List.length_map]; omega), rd_at l i hlt, step16 x _ h0 h1, w64 (by omega), drop_cons l i hlt, List.foldl_cons]
    exact ih k (i + 1) _ (by omega) (by omega) (by omega) (Int.emod_nonneg _ (by omega)) (Int.emod_lt_of_pos _ (by omega))
theorem loop32 (l : List UInt8) (b : Bool) (hl : l.length ≤ 4611686018427387904) (d : Nat) : ∀ (k i : Nat) (x : Int), l.length - i = d → i ≤ l.length → d < k → 0 ≤ x → x < 4294967296 →
    octet_get_uint32.l0 k b x (l.map fun c => (c.toNat : Int)) (l.length : Int) (i : Int) = some ((l.drop i).foldl (fun x c => (x * 256 + (c.toNat : Int)) % 4294967296) x, b) := by
  induction d with
  | zero =>
    intro k i x hd hi hk h0 h1
    obtain ⟨k, rfl⟩ : ∃ m, k = m + 1 := ⟨k - 1, by omega⟩
    rw [octet_get_uint32.l0, if_neg (by omega), List.drop_of_length_le (by omega)]
    rfl
  | succ d ih =>
    intro k i x hd hi hk h0 h1
    obtain ⟨k, rfl⟩ : ∃ m, k = m + 1 := ⟨k - 1, by omega⟩
    have hlt : i < l.length := by omega
    rw [octet_get_uint32.l0, if_pos (by omega), if_pos (by omega), if_pos (by rw [List.length_map]; omega), rd_at l i hlt, step32 x _ h0 h1, w64 (by omega), drop_cons l i hlt, List.foldl_cons]
    exact ih k (i + 1) _ (by omega) (by omega) (by omega) (Int.emod_nonneg _ (by omega)) (Int.emod_lt_of_pos _ (by omega))
theorem loop64 (l : List UInt8) (b : Bool) (hl : l.length ≤ 4611686018427387904) (d : Nat) : ∀ (k i : Nat) (x : Int), l.length - i = d → i ≤ l.length → d < k → 0 ≤ x → x < 18446744073709551616 →
    octet_get_uint64.l0 k b x (l.map fun c => (c.toNat : Int)) (l.length : Int) (i : Int) = some ((l.drop i).foldl (fun x c => (x * 256 + (c.toNat : Int)) % 18446744073709551616) x, b) := by
  induction d with
  | zero =>
    intro k i x hd hi hk h0 h1
    obtain ⟨k, rfl⟩ : ∃ m, k = m + 1 := ⟨k - 1, by omega⟩
    rw [octet_get_uint64.l0, if_neg (by omega), List.drop_of_length_le (by omega)]
    rfl
  | succ d ih =>
    intro k i x hd hi hk h0 h1
    obtain ⟨k, rfl⟩ : ∃ m, k = m + 1 := ⟨k - 1, by omega⟩
    have hlt : i < l.length := by omega
    rw [octet_get_uint64.l0, if_pos (by omega), if_pos (by omega), if_pos (by rw [List.length_map]; omega), rd_at l i hlt, step64 x _ h0 h1, w64 (by omega), drop_cons l i hlt, List.foldl_cons]
    exact ih k (i + 1) _ (by omega) (by omega) (by omega) (Int.emod_nonneg _ (by omega)) (Int.emod_lt_of_pos _ (by omega))

/-- A number read at a place. -/
def getN (l : List UInt8) (at_ : Int) (n : Int) : Int := num (cutL l at_ n)
theorem cut_small (l : List UInt8) (at_ : Int) (n : Nat) : (cutL l at_ (n : Int)).length ≤ n := by
  rw [cutL_length]; split <;> omega
theorem getN_range (l : List UInt8) (at_ : Int) (n : Nat) : 0 ≤ getN l at_ n ∧ getN l at_ n < 256 ^ n := by
  have h := num_range (cutL l at_ n)
  refine ⟨h.1, Int.lt_of_lt_of_le h.2 ?_⟩
  have h1 := cut_small l at_ n
  have h2 : (256 : Nat) ^ (cutL l at_ n).length ≤ 256 ^ n := Nat.pow_le_pow_right (by omega) h1
  have h3 : ((256 ^ (cutL l at_ n).length : Nat) : Int) ≤ ((256 ^ n : Nat) : Int) := Int.ofNat_le.2 h2
  rw [Int.natCast_pow, Int.natCast_pow] at h3
  exact h3
theorem get16 {k : Nat} (hk : 4 ≤ k) (s : ByteArray) (at_ : Int) (hs : s.size ≤ 4611686018427387904) (ha : -9223372036854775808 ≤ at_ ∧ at_ ≤ 9223372036854775807) : octet_Get16.f k s at_ = some (getN (L s) at_ 2, cutB (L s) at_ 2) := by
  have hr : 0 ≤ getN (L s) at_ 2 ∧ getN (L s) at_ 2 < 256 ^ 2 := getN_range (L s) at_ 2
  have hc : (cutL (L s) at_ 2).length ≤ 2 := cut_small (L s) at_ 2
  unfold octet_Get16.f octet_get_uint16.f
  rw [cut s at_ 2 hs ha (by omega)]
  simp only [Option.bind_some]
  rw [conv _ (by rw [size_B]; omega)]
  simp only [Option.bind_some]
  rw [bytesOf_L, L_B, List.length_map]
  rw [show ((0 : Int)) = ((0 : Nat) : Int) from rfl]
  rw [loop16 _ _ (by omega) _ k 0 ((0 : Nat) : Int) rfl (by omega) (by omega) (by omega) (by omega)]
  simp only [Option.bind_some, List.drop_zero]
  rw [show (((0 : Nat) : Int)) = (0 : Int) % 65536 from rfl, fold_mod]
  refine congrArg some (Prod.ext ?_ rfl)
  show (num (cutL (L s) at_ 2)) % 65536 = getN (L s) at_ 2
  unfold getN at hr ⊢
  exact Int.emod_eq_of_lt hr.1 (by simpa using hr.2)
theorem get32 {k : Nat} (hk : 6 ≤ k) (s : ByteArray) (at_ : Int) (hs : s.size ≤ 4611686018427387904) (ha : -9223372036854775808 ≤ at_ ∧ at_ ≤ 9223372036854775807) : octet_Get32.f k s at_ = some (getN (L s) at_ 4, cutB (L s) at_ 4) := by
  have hr : 0 ≤ getN (L s) at_ 4 ∧ getN (L s) at_ 4 < 256 ^ 4 := getN_range (L s) at_ 4
  have hc : (cutL (L s) at_ 4).length ≤ 4 := cut_small (L s) at_ 4
  unfold octet_Get32.f octet_get_uint32.f
  rw [cut s at_ 4 hs ha (by omega)]
  simp only [Option.bind_some]
  rw [conv _ (by rw [size_B]; omega)]
  simp only [Option.bind_some]
  rw [bytesOf_L, L_B, List.length_map]
  rw [show ((0 : Int)) = ((0 : Nat) : Int) from rfl]
  rw [loop32 _ _ (by omega) _ k 0 ((0 : Nat) : Int) rfl (by omega) (by omega) (by omega) (by omega)]
  simp only [Option.bind_some, List.drop_zero]
  rw [show (((0 : Nat) : Int)) = (0 : Int) % 4294967296 from rfl, fold_mod]
  refine congrArg some (Prod.ext ?_ rfl)
  show (num (cutL (L s) at_ 4)) % 4294967296 = getN (L s) at_ 4
  unfold getN at hr ⊢
  exact Int.emod_eq_of_lt hr.1 (by simpa using hr.2)
theorem get64 {k : Nat} (hk : 10 ≤ k) (s : ByteArray) (at_ : Int) (hs : s.size ≤ 4611686018427387904) (ha : -9223372036854775808 ≤ at_ ∧ at_ ≤ 9223372036854775807) : octet_Get64.f k s at_ = some (getN (L s) at_ 8, cutB (L s) at_ 8) := by
  have hr : 0 ≤ getN (L s) at_ 8 ∧ getN (L s) at_ 8 < 256 ^ 8 := getN_range (L s) at_ 8
  have hc : (cutL (L s) at_ 8).length ≤ 8 := cut_small (L s) at_ 8
  unfold octet_Get64.f octet_get_uint64.f
  rw [cut s at_ 8 hs ha (by omega)]
  simp only [Option.bind_some]
  rw [conv _ (by rw [size_B]; omega)]
  simp only [Option.bind_some]
  rw [bytesOf_L, L_B, List.length_map]
  rw [show ((0 : Int)) = ((0 : Nat) : Int) from rfl]
  rw [loop64 _ _ (by omega) _ k 0 ((0 : Nat) : Int) rfl (by omega) (by omega) (by omega) (by omega)]
  simp only [Option.bind_some, List.drop_zero]
  rw [show (((0 : Nat) : Int)) = (0 : Int) % 18446744073709551616 from rfl, fold_mod]
  refine congrArg some (Prod.ext ?_ rfl)
  show (num (cutL (L s) at_ 8)) % 18446744073709551616 = getN (L s) at_ 8
  unfold getN at hr ⊢
  exact Int.emod_eq_of_lt hr.1 (by simpa using hr.2)

theorem Put16 {k : Nat} (hk : 4 ≤ k) (a : Int) (h0 : 0 ≤ a) (h1 : a < 65536) : octet_Put16.f k a = some (B (be2 a)) := by
  unfold octet_Put16.f; rw [put16 hk a h0 h1]; rfl
theorem Put32 {k : Nat} (hk : 6 ≤ k) (a : Int) (h0 : 0 ≤ a) (h1 : a < 4294967296) : octet_Put32.f k a = some (B (be4 a)) := by
  unfold octet_Put32.f; rw [put32 hk a h0 h1]; rfl
theorem Put64 {k : Nat} (hk : 10 ≤ k) (a : Int) (h0 : 0 ≤ a) (h1 : a < 18446744073709551616) : octet_Put64.f k a = some (B (be8 a)) := by
  unfold octet_Put64.f; rw [put64 hk a h0 h1]; rfl
theorem u16_wrap (n : Int) : IntKind.u16.wrap n = n % 65536 := by simp [IntKind.wrap, IntKind.bits, IntKind.signed]
theorem u64_wrap (n : Int) : IntKind.u64.wrap n = n % 18446744073709551616 := by simp [IntKind.wrap, IntKind.bits, IntKind.signed]
theorem be2_length (a : Int) : (be2 a).length = 2 := rfl
theorem be4_length (a : Int) : (be4 a).length = 4 := rfl
theorem be8_length (a : Int) : (be8 a).length = 8 := rfl
/-- A length of 16 bits and as many bytes. -/
def runOk (l : List UInt8) : Bool := decide (l.length ≤ 65535)
def runL (l : List UInt8) : List UInt8 := if runOk l = true then be2 l.length ++ l else []
theorem run {k : Nat} (hk : 4 ≤ k) (s : ByteArray) : octet_Run.f k s = some (B (runL (L s)), runOk (L s)) := by
  unfold octet_Run.f runL
  have hl : ((L s).length : Int) = s.size := by rw [size_L]
  by_cases h : (s.size : Int) > 65535
  · have hb : runOk (L s) = false := by simp only [runOk, decide_eq_false_iff_not]; omega
    rw [if_pos h, hb]; rfl
  · have hb : runOk (L s) = true := by simp only [runOk, decide_eq_true_eq]; omega
    rw [if_neg h, hb, if_pos rfl, u16_wrap, Int.emod_eq_of_lt (by omega) (by omega), Put16 hk _ (by omega) (by omega)]
    simp only [Option.bind_some]
    rw [if_pos (by rw [size_B, be2_length]; omega), hl]
    refine congrArg some (Prod.ext ?_ rfl)
    apply ext_L
    rw [L_append, L_B, L_B]
/-- The run at a place: its bytes, the place behind it. -/
def takeOk (l : List UInt8) (at_ : Int) : Bool := cutB l at_ 2 && cutB l (at_ + 2) (getN l at_ 2)
def takeL (l : List UInt8) (at_ : Int) : List UInt8 := if takeOk l at_ = true then cutL l (at_ + 2) (getN l at_ 2) else []
def takeTo (l : List UInt8) (at_ : Int) : Int := if takeOk l at_ = true then at_ + 2 + getN l at_ 2 else 0
theorem cutB_bound {l : List UInt8} {at_ n : Int} (h : cutB l at_ n = true) : 0 ≤ at_ ∧ 0 ≤ n ∧ at_ + n ≤ l.length := by simpa [cutB] using h
theorem takeRun {k : Nat} (hk : 4 ≤ k) (s : ByteArray) (at_ : Int) (hs : s.size ≤ 4611686018427387904) (ha : -9223372036854775808 ≤ at_ ∧ at_ ≤ 9223372036854775807) :
    octet_TakeRun.f k s at_ = some (B (takeL (L s) at_), takeTo (L s) at_, takeOk (L s) at_) := by
  have hl : ((L s).length : Int) = s.size := by rw [size_L]
  have hr : 0 ≤ getN (L s) at_ 2 ∧ getN (L s) at_ 2 < 256 ^ 2 := getN_range (L s) at_ 2
  have hr2 : getN (L s) at_ 2 < 65536 := by simpa using hr.2
  unfold octet_TakeRun.f takeL takeTo takeOk
  rw [get16 hk s at_ hs ha]
  simp only [Option.bind_some]
  by_cases h1 : cutB (L s) at_ 2 = true
  · have hb := cutB_bound h1
    rw [if_pos h1, h1, w64 (n := at_ + 2) (by omega), w64 (n := getN (L s) at_ 2) (by omega), cut s _ _ hs (by omega) (by omega)]
    simp only [Option.bind_some, Bool.true_and]
    by_cases h2 : cutB (L s) (at_ + 2) (getN (L s) at_ 2) = true
    · have hb2 := cutB_bound h2
      rw [if_pos h2, h2, if_pos rfl, if_pos rfl, size_B, cutL_length, h2, if_pos rfl]
      refine congrArg some (Prod.ext rfl (Prod.ext ?_ rfl))
      show wrap64 _ = at_ + 2 + getN (L s) at_ 2
      rw [w64 (by omega)]
      omega
    · replace h2 := Bool.eq_false_iff.mpr h2
      rw [h2, if_neg (by decide), if_neg (by decide), if_neg (by decide)]; rfl
  · replace h1 := Bool.eq_false_iff.mpr h1
    rw [h1, if_neg (by decide)]
    rfl
theorem putAddr {k : Nat} (hk : 10 ≤ k) (a b : Int) (h0 : 0 ≤ a ∧ a < 18446744073709551616) (h1 : 0 ≤ b ∧ b < 18446744073709551616) : octet_PutAddr.f k a b = some (B (be8 a ++ be8 b)) := by
  unfold octet_PutAddr.f
  rw [Put64 hk a h0.1 h0.2, Put64 hk b h1.1 h1.2]
  simp only [Option.bind_some]
  rw [if_pos (by rw [size_B, size_B, be8_length, be8_length]; omega), B_append]
theorem getAddr {k : Nat} (hk : 10 ≤ k) (s : ByteArray) (at_ : Int) (hs : s.size ≤ 4611686018427387904) (ha : -9223372036854775808 ≤ at_ ∧ at_ ≤ 9223372036854775807) :
    octet_GetAddr.f k s at_ = some (if cutB (L s) at_ 16 = true then (getN (cutL (L s) at_ 16) 0 8, getN (cutL (L s) at_ 16) 8 8, true) else (0, 0, false)) := by
  unfold octet_GetAddr.f
  rw [cut s at_ 16 hs ha (by omega)]
  simp only [Option.bind_some]
  by_cases h : cutB (L s) at_ 16 = true
  · have hc : (cutL (L s) at_ 16).length ≤ 16 := cut_small (L s) at_ 16
    rw [if_pos h, if_pos h, get64 hk _ 0 (by rw [size_B]; omega) (by omega), get64 hk _ 8 (by rw [size_B]; omega) (by omega)]
    rfl
  · rw [if_neg h, if_neg h]
theorem cutB_mid (a w s : List UInt8) (n : Int) (hn : n = w.length) : cutB (a ++ w ++ s) (a.length : Int) n = true := by
  simp only [cutB, decide_eq_true_eq, List.length_append]; omega
theorem cutL_mid (a w s : List UInt8) (n : Int) (hn : n = w.length) : cutL (a ++ w ++ s) (a.length : Int) n = w := by
  unfold cutL
  rw [cutB_mid a w s n hn, if_pos rfl, hn, Int.toNat_natCast, Int.toNat_natCast, List.append_assoc, List.drop_left, List.take_left]
theorem cutB_short (a w : List UInt8) (n : Int) (hn : (w.length : Int) < n) : cutB (a ++ w) (a.length : Int) n = false := by
  simp only [cutB, decide_eq_false_iff_not, List.length_append]; omega
theorem getN_mid (a w s : List UInt8) (n : Int) (hn : n = w.length) : getN (a ++ w ++ s) (a.length : Int) n = num w := by
  unfold getN; rw [cutL_mid a w s n hn]
theorem cutB_head (w s : List UInt8) (n : Int) (hn : n = w.length) : cutB (w ++ s) 0 n = true := cutB_mid [] w s n hn
theorem cutL_head (w s : List UInt8) (n : Int) (hn : n = w.length) : cutL (w ++ s) 0 n = w := cutL_mid [] w s n hn
theorem getN_head (w s : List UInt8) (n : Int) (hn : n = w.length) : getN (w ++ s) 0 n = num w := getN_mid [] w s n hn
theorem addr_mid (a s : List UInt8) (hi lo : Int) (h0 : 0 ≤ hi ∧ hi < 18446744073709551616) (h1 : 0 ≤ lo ∧ lo < 18446744073709551616) :
    cutB (a ++ (be8 hi ++ be8 lo) ++ s) (a.length : Int) 16 = true ∧ getN (cutL (a ++ (be8 hi ++ be8 lo) ++ s) (a.length : Int) 16) 0 8 = hi ∧ getN (cutL (a ++ (be8 hi ++ be8 lo) ++ s) (a.length : Int) 16) 8 8 = lo := by
  rw [cutL_mid a (be8 hi ++ be8 lo) s 16 rfl]
  refine ⟨cutB_mid _ _ _ _ rfl, ?_, ?_⟩
  · rw [getN_head (be8 hi) (be8 lo) 8 rfl, num_be8 hi h0.1 h0.2]
  · have := getN_mid (be8 hi) (be8 lo) [] 8 rfl
    rw [List.append_nil, num_be8 lo h1.1 h1.2] at this
    exact this
/-- A run that stands between two pieces. -/
theorem take_mid (a r s : List UInt8) (hr : r.length ≤ 65535) : takeOk (a ++ (be2 r.length ++ r) ++ s) (a.length : Int) = true ∧ takeL (a ++ (be2 r.length ++ r) ++ s) (a.length : Int) = r ∧ takeTo (a ++ (be2 r.length ++ r) ++ s) (a.length : Int) = a.length + 2 + r.length := by
  have e1 : a ++ (be2 r.length ++ r) ++ s = a ++ be2 r.length ++ (r ++ s) := by simp [List.append_assoc]
  have e2 : a ++ (be2 r.length ++ r) ++ s = (a ++ be2 r.length) ++ r ++ s := by simp [List.append_assoc]
  have hg : getN (a ++ (be2 r.length ++ r) ++ s) (a.length : Int) 2 = r.length := by
    rw [e1, getN_mid a (be2 r.length) (r ++ s) 2 rfl, num_be2 _ (by omega) (by omega)]
  have h1 : cutB (a ++ (be2 r.length ++ r) ++ s) (a.length : Int) 2 = true := by rw [e1]; exact cutB_mid _ _ _ _ rfl
  have hl : ((a ++ be2 r.length).length : Int) = (a.length : Int) + 2 := by rw [List.length_append, be2_length]; omega
  have h2 : cutB (a ++ (be2 r.length ++ r) ++ s) ((a.length : Int) + 2) (r.length : Int) = true := by
    rw [e2, ← hl]; exact cutB_mid _ _ _ _ rfl
  have h3 : cutL (a ++ (be2 r.length ++ r) ++ s) ((a.length : Int) + 2) (r.length : Int) = r := by
    rw [e2, ← hl]; exact cutL_mid _ _ _ _ rfl
  have ho : takeOk (a ++ (be2 r.length ++ r) ++ s) (a.length : Int) = true := by unfold takeOk; rw [h1, hg, h2]; rfl
  refine ⟨ho, ?_, ?_⟩
  · unfold takeL; rw [ho, if_pos rfl, hg, h3]
  · unfold takeTo; rw [ho, if_pos rfl, hg]
/-- Cut before its end it is none. -/
theorem take_short (a r : List UInt8) (k : Nat) (hr : r.length ≤ 65535) (hk : k < 2 + r.length) : takeOk (a ++ (be2 r.length ++ r).take k) (a.length : Int) = false := by
  unfold takeOk
  by_cases h2 : k < 2
  · rw [cutB_short a _ 2 (by rw [List.length_take, List.length_append, be2_length]; omega)]; rfl
  · have e1 : (be2 r.length ++ r).take k = be2 r.length ++ r.take (k - 2) := by
      rw [List.take_append, be2_length, List.take_of_length_le (by rw [be2_length]; omega)]
    have hg : getN (a ++ (be2 r.length ++ r).take k) (a.length : Int) 2 = r.length := by
      rw [e1, ← List.append_assoc, getN_mid a (be2 r.length) _ 2 rfl, num_be2 _ (by omega) (by omega)]
    have hl : ((a ++ be2 r.length).length : Int) = (a.length : Int) + 2 := by rw [List.length_append, be2_length]; omega
    rw [hg, e1, ← List.append_assoc, ← hl, cutB_short _ _ _ (by rw [List.length_take]; omega), Bool.and_false]
end Go.Proofs.Ytngojiikkokajaa.Oct
