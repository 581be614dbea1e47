/- The plain side: what the program and the reference compute, as plain lemmas; conditions: as each lemma says. -/
import Derived.Test.YthadapbekmmgpaaSX0
import Derived.Test.YthadapbekmmgpaaSX4
import Derived.Test.YthadapbekmmgpaaSXE8
import Derived.Test.YthadapbekmmgpaaSXE9
import Derived.Laws.BitsAllLaws
import Derived.Lib.Strings
set_option linter.unusedVariables false
set_option linter.unusedSimpArgs false
namespace Go.Proofs.Ythadapbekmmgpaa.Oct
open Go.RowKit Go.Proofs.YthadapbekmmgpaaW.PrintWords Go.Proofs.YthadapbekmmgpaaW.PrintLast Go.Proofs.YthadapbekmmgpaaW.PrintMore Go.Proofs.Ythadapbekmmgpaa.X

/-- A string out of its bytes. -/
def B (l : List UInt8) : ByteArray := ⟨l.toArray⟩
/-- A string's bytes. -/
def L (s : ByteArray) : List UInt8 := s.data.toList
theorem L_B (l : List UInt8) : L (B l) = l := rfl
theorem B_L (s : ByteArray) : B (L s) = s := rfl
theorem toList_L (s : ByteArray) : s.toList = L s := ByteArray.toList_eq s
theorem size_L (s : ByteArray) : s.size = (L s).length := rfl
theorem L_append (a b : ByteArray) : L (a ++ b) = L a ++ L b := by simp [L, ByteArray.data_append]
theorem B_append (a b : List UInt8) : B a ++ B b = B (a ++ b) := by
  rw [← B_L (B a ++ B b), L_append, L_B, L_B]
theorem L_extract (s : ByteArray) (a b : Nat) : L (s.extract a b) = ((L s).drop a).take (b - a) := Lib.extract_data s a b
theorem ext_L {a b : ByteArray} (h : L a = L b) : a = b := by rw [← B_L a, ← B_L b, h]
theorem size_B (l : List UInt8) : (B l).size = l.length := rfl
/-- A number's low byte. -/
def b8 (n : Int) : UInt8 := UInt8.ofNat (n % 256).toNat
theorem b8_nat (n : Int) : ((b8 n).toNat : Int) = n % 256 := by
  unfold b8
  rw [UInt8.toNat_ofNat']
  omega
theorem b8_mod (n : Int) : b8 (n % 256) = b8 n := by unfold b8; rw [Int.emod_emod]
theorem b8_byte (c : UInt8) : b8 (c.toNat : Int) = c := by
  unfold b8
  have h := c.toNat_lt
  rw [show ((c.toNat : Int) % 256).toNat = c.toNat by omega]
  exact UInt8.ofNat_toNat
theorem strOfNums_B (l : List Int) (h : ∀ x ∈ l, 0 ≤ x ∧ x < 256) : strOfNums l = B (l.map b8) := by
  unfold strOfNums B
  congr 2
  apply List.map_congr_left
  intro x hx
  obtain ⟨h0, h1⟩ := h x hx
  unfold b8
  rw [Int.emod_eq_of_lt h0 h1]
/-- The bytes of numbers, the highest first. -/
def be2 (a : Int) : List UInt8 := [b8 (a / 256), b8 a]
def be4 (a : Int) : List UInt8 := [b8 (a / 16777216), b8 (a / 65536), b8 (a / 256), b8 a]
def be8 (a : Int) : List UInt8 := [b8 (a / 72057594037927936), b8 (a / 281474976710656), b8 (a / 1099511627776), b8 (a / 4294967296), b8 (a / 16777216), b8 (a / 65536), b8 (a / 256), b8 a]

theorem w64 {n : Int} (h : -9223372036854775808 ≤ n ∧ n ≤ 9223372036854775807) : wrap64 n = n := by unfold wrap64; omega

theorem wf_u64 {n : Int} (h : (Lit.int .u64 n).wf = true) : 0 ≤ n ∧ n < 18446744073709551616 := by
  have h : 0 ≤ n ∧ n ≤ 18446744073709551615 := by simpa [Lit.wf, IntKind.min, IntKind.max, IntKind.bits, IntKind.signed] using h
  omega
theorem wf_u32 {n : Int} (h : (Lit.int .u32 n).wf = true) : 0 ≤ n ∧ n < 4294967296 := by
  have h : 0 ≤ n ∧ n ≤ 4294967295 := by simpa [Lit.wf, IntKind.min, IntKind.max, IntKind.bits, IntKind.signed] using h
  omega
theorem wf_u16 {n : Int} (h : (Lit.int .u16 n).wf = true) : 0 ≤ n ∧ n < 65536 := by
  have h : 0 ≤ n ∧ n ≤ 65535 := by simpa [Lit.wf, IntKind.min, IntKind.max, IntKind.bits, IntKind.signed] using h
  omega
/-- The number that bytes are, the highest first. -/
def num (l : List UInt8) : Int := l.foldl (fun x c => x * 256 + (c.toNat : Int)) 0
theorem num_from (l : List UInt8) : ∀ x : Int, l.foldl (fun x c => x * 256 + (c.toNat : Int)) x = x * 256 ^ l.length + num l := by
  unfold num
  induction l with
  | nil => intro x; simp
  | cons c l ih =>
    intro x
    rw [List.foldl_cons, List.foldl_cons, ih, ih (0 * 256 + (c.toNat : Int)), List.length_cons, Int.pow_succ, Int.zero_mul, Int.zero_add]
    rw [Int.add_mul, Int.mul_assoc, Int.mul_comm 256 ((256 : Int) ^ l.length)]
    omega
theorem num_cons (c : UInt8) (l : List UInt8) : num (c :: l) = (c.toNat : Int) * 256 ^ l.length + num l := by
  have := num_from l (c.toNat : Int)
  unfold num
  rw [List.foldl_cons, show (0 : Int) * 256 + (c.toNat : Int) = (c.toNat : Int) by omega, this]
  rfl
theorem num_range (l : List UInt8) : 0 ≤ num l ∧ num l < 256 ^ l.length := by
  induction l with
  | nil => simp [num]
  | cons c l ih =>
    rw [num_cons, List.length_cons, Int.pow_succ]
    have h := c.toNat_lt
    have h0 : (c.toNat : Int) ≤ 255 := by omega
    have hp : (0 : Int) < 256 ^ l.length := Int.pow_pos (by omega)
    have h1 : (c.toNat : Int) * 256 ^ l.length ≤ 255 * 256 ^ l.length := Int.mul_le_mul_of_nonneg_right h0 (Int.le_of_lt hp)
    have h2 : 0 ≤ (c.toNat : Int) * 256 ^ l.length := Int.mul_nonneg (by omega) (Int.le_of_lt hp)
    omega
theorem num_be2 (a : Int) (h0 : 0 ≤ a) (h1 : a < 65536) : num (be2 a) = a := by
  simp [be2, num, b8_nat]
  omega
theorem num_be4 (a : Int) (h0 : 0 ≤ a) (h1 : a < 4294967296) : num (be4 a) = a := by
  simp [be4, num, b8_nat]
  omega
theorem num_be8 (a : Int) (h0 : 0 ≤ a) (h1 : a < 18446744073709551616) : num (be8 a) = a := by
  simp [be8, num, b8_nat]
  omega
theorem be2_num (x y : UInt8) : be2 (num [x, y]) = [x, y] := by
  have hx := x.toNat_lt
  have hy := y.toNat_lt
  have e : num [x, y] = (x.toNat : Int) * 256 + (y.toNat : Int) := by simp [num]
  rw [e, be2, ← b8_mod ((x.toNat : Int) * 256 + _), show ((x.toNat : Int) * 256 + (y.toNat : Int)) / 256 = (x.toNat : Int) by omega, show ((x.toNat : Int) * 256 + (y.toNat : Int)) % 256 = (y.toNat : Int) by omega, b8_byte, b8_byte]
/-- A fold that wraps at each step wraps once. -/
theorem fold_mod (M : Int) (l : List UInt8) : ∀ x : Int, l.foldl (fun x c => (x * 256 + (c.toNat : Int)) % M) (x % M) = (l.foldl (fun x c => x * 256 + (c.toNat : Int)) x) % M := by
  induction l with
  | nil => intro x; rfl
  | cons c l ih =>
    intro x
    rw [List.foldl_cons, List.foldl_cons, ← ih]
    congr 1
    rw [Int.add_emod, Int.mul_emod, Int.emod_emod, ← Int.mul_emod, ← Int.add_emod]

/-- A piece: n bytes from at on; or nothing. -/
def cutB (l : List UInt8) (at_ n : Int) : Bool := decide (0 ≤ at_ ∧ 0 ≤ n ∧ at_ + n ≤ l.length)
def cutL (l : List UInt8) (at_ n : Int) : List UInt8 := if cutB l at_ n = true then (l.drop at_.toNat).take n.toNat else []
theorem cutL_length (l : List UInt8) (at_ n : Int) : (cutL l at_ n).length = if cutB l at_ n = true then n.toNat else 0 := by
  unfold cutL
  split
  · rename_i h
    simp only [cutB, decide_eq_true_eq] at h
    rw [List.length_take, List.length_drop]
    omega
  · rfl
theorem mn_lt (a b : Int) : mn a b < 0 ↔ a < 0 ∨ b < 0 := by unfold mn; split <;> omega
theorem cut (s : ByteArray) (at_ n : Int) (hs : s.size ≤ 4611686018427387904) (ha : -9223372036854775808 ≤ at_ ∧ at_ ≤ 9223372036854775807) (hn : -9223372036854775808 ≤ n ∧ n ≤ 9223372036854775807) :
    octet_Cut.f s at_ n = some (B (cutL (L s) at_ n), cutB (L s) at_ n) := by
  unfold octet_Cut.f cutL
  have hl : ((L s).length : Int) = s.size := by rw [size_L]
  by_cases h1 : mn at_ n < 0
  · rw [if_pos h1]
    have h1' := (mn_lt _ _).1 h1
    have hb : cutB (L s) at_ n = false := by simp only [cutB, decide_eq_false_iff_not]; omega
    rw [hb]; rfl
  · rw [if_neg h1]
    have h1' : ¬ (at_ < 0 ∨ n < 0) := fun h => h1 ((mn_lt _ _).2 h)
    by_cases h2 : at_ > (s.size : Int)
    · rw [if_pos h2]
      have hb : cutB (L s) at_ n = false := by simp only [cutB, decide_eq_false_iff_not]; omega
      rw [hb]; rfl
    · rw [if_neg h2, w64 (by omega)]
      by_cases h3 : n > (s.size : Int) - at_
      · rw [if_pos h3]
        have hb : cutB (L s) at_ n = false := by simp only [cutB, decide_eq_false_iff_not]; omega
        rw [hb]; rfl
      · have hb : cutB (L s) at_ n = true := by simp only [cutB, decide_eq_true_eq]; omega
        have he : (s.extract at_.toNat s.size).size = s.size - at_.toNat := by rw [ByteArray.size_extract, Nat.min_self]
        rw [if_neg h3, if_pos (by omega), if_pos (by omega), if_pos (by omega), if_pos (by rw [he]; omega), hb, if_pos rfl]
        refine congrArg some (Prod.ext ?_ rfl)
        apply ext_L
        rw [L_extract, L_extract, L_B, List.drop_zero, Nat.sub_zero, List.take_take]
        congr 1
        omega
theorem conv (s : ByteArray) (hs : s.size ≤ 4611686018427387904) : conv9_47.f s = some (bytesOf s) := by
  unfold conv9_47.f
  rw [if_pos (by omega)]
theorem bytesOf_L (s : ByteArray) : bytesOf s = (L s).map fun c => (c.toNat : Int) := rfl
theorem rd_at (l : List UInt8) (i : Nat) (h : i < l.length) : rd (l.map fun c => (c.toNat : Int)) (i : Int) = (l[i].toNat : Int) := by
  simp [rd, List.getD_eq_getElem?_getD, h]
theorem put16 {k : Nat} (hk : 4 ≤ k) (a : Int) (h0 : 0 ≤ a) (h1 : a < 65536) : octet_put_uint16.f k a 2 = some (B (be2 a)) := by
  obtain ⟨k, rfl⟩ : ∃ m, k = m + 4 := ⟨k - 4, by omega⟩
  have e : strOfNums [a / 256 % 256, a % 256] = B (be2 a) := by
    rw [strOfNums_B _ (by intro x hx; simp at hx; omega)]
    simp [be2, b8_mod]
  rw [← e]
  simp [octet_put_uint16.f, octet_put_uint16.l0, wrap64, shr, IntKind.bits, List.replicate]
theorem put32 {k : Nat} (hk : 6 ≤ k) (a : Int) (h0 : 0 ≤ a) (h1 : a < 4294967296) : octet_put_uint32.f k a 4 = some (B (be4 a)) := by
  obtain ⟨k, rfl⟩ : ∃ m, k = m + 6 := ⟨k - 6, by omega⟩
  have e : strOfNums [a / 16777216 % 256, a / 65536 % 256, a / 256 % 256, a % 256] = B (be4 a) := by
    rw [strOfNums_B _ (by intro x hx; simp at hx; omega)]
    simp [be4, b8_mod]
  rw [← e]
  simp [octet_put_uint32.f, octet_put_uint32.l0, wrap64, shr, IntKind.bits, List.replicate]
theorem put64 {k : Nat} (hk : 10 ≤ k) (a : Int) (h0 : 0 ≤ a) (h1 : a < 18446744073709551616) : octet_put_uint64.f k a 8 = some (B (be8 a)) := by
  obtain ⟨k, rfl⟩ : ∃ m, k = m + 10 := ⟨k - 10, by omega⟩
  have e : strOfNums [a / 72057594037927936 % 256, a / 281474976710656 % 256, a / 1099511627776 % 256, a / 4294967296 % 256, a / 16777216 % 256, a / 65536 % 256, a / 256 % 256, a % 256] = B (be8 a) := by
    rw [strOfNums_B _ (by intro x hx; simp at hx; omega)]
    simp [be8, b8_mod]
  rw [← e]
  simp [octet_put_uint64.f, octet_put_uint64.l0, wrap64, shr, IntKind.bits, List.replicate]

/-- Below a byte shifted up there is room for one. -/
theorem or_step (w : Nat) (x c : Nat) (hc : c < 256) : (x * 256) % 2 ^ (w + 8) ||| c = (x * 256 + c) % 2 ^ (w + 8) := by
  have hp : (2 : Nat) ^ (w + 8) = 2 ^ w * 256 := by rw [Nat.pow_add]
  have h1 : (x * 256) % 2 ^ (w + 8) = (x % 2 ^ w) * 256 := by rw [hp, Nat.mul_mod_mul_right]
  have h2 : (x * 256 + c) % 2 ^ (w + 8) = (x % 2 ^ w) * 256 + c := by
    rw [hp, Nat.add_mod, Nat.mul_mod_mul_right]
    have h3 : x % 2 ^ w < 2 ^ w := Nat.mod_lt _ (Nat.pow_pos (by omega))
    have h4 : (x % 2 ^ w) * 256 + 256 ≤ 2 ^ w * 256 := by
      rw [← Nat.succ_mul]
      exact Nat.mul_le_mul_right _ h3
    have h5 : c % (2 ^ w * 256) = c := Nat.mod_eq_of_lt (by omega)
    rw [h5]
    exact Nat.mod_eq_of_lt (by omega)
  rw [h1, h2, show (x % 2 ^ w) * 256 = 2 ^ 8 * (x % 2 ^ w) by omega]
  exact (Nat.two_pow_add_eq_or_of_lt (i := 8) hc (x % 2 ^ w)).symm

theorem step16 (x : Int) (c : UInt8) (h0 : 0 ≤ x) (h1 : x < 65536) : Go.bits .or .u16 (IntKind.u16.wrap (x * 256)) (IntKind.u16.wrap (c.toNat : Int)) = (x * 256 + (c.toNat : Int)) % 65536 := by
  have hc := c.toNat_lt
  obtain ⟨n, rfl⟩ : ∃ n : Nat, x = (n : Int) := ⟨x.toNat, by omega⟩
  have e1 : IntKind.u16.wrap ((n : Int) * 256) = ((n * 256 % 65536 : Nat) : Int) := by simp [IntKind.wrap, IntKind.bits, IntKind.signed]
  have e2 : IntKind.u16.wrap (c.toNat : Int) = ((c.toNat : Nat) : Int) := by simp [IntKind.wrap, IntKind.bits, IntKind.signed]; omega
  rw [e1, e2, u16_or_nat _ _ (Nat.mod_lt _ (by omega)) (by omega)]
  have := or_step 8 n c.toNat (by omega)
  rw [show (2 : Nat) ^ (8 + 8) = 65536 by decide] at this
  rw [this]
  omega
theorem step32 (x : Int) (c : UInt8) (h0 : 0 ≤ x) (h1 : x < 4294967296) : Go.bits .or .u32 ((x * 256) % 4294967296) ((c.toNat : Int) % 4294967296) = (x * 256 + (c.toNat : Int)) % 4294967296 := by
  have hc := c.toNat_lt
  obtain ⟨n, rfl⟩ : ∃ n : Nat, x = (n : Int) := ⟨x.toNat, by omega⟩
  have e1 : ((n : Int) * 256) % 4294967296 = ((n * 256 % 4294967296 : Nat) : Int) := by omega
  have e2 : (c.toNat : Int) % 4294967296 = ((c.toNat : Nat) : Int) := by omega
  rw [e1, e2, u32_or_nat _ _ (Nat.mod_lt _ (by omega)) (by omega)]
  have := or_step 24 n c.toNat (by omega)
  rw [show (2 : Nat) ^ (24 + 8) = 4294967296 by decide] at this
  rw [this]
  omega
theorem step64 (x : Int) (c : UInt8) (h0 : 0 ≤ x) (h1 : x < 18446744073709551616) : Go.bits .or .u64 (IntKind.u64.wrap (x * 256)) (IntKind.u64.wrap (c.toNat : Int)) = (x * 256 + (c.toNat : Int)) % 18446744073709551616 := by
  have hc := c.toNat_lt
  obtain ⟨n, rfl⟩ : ∃ n : Nat, x = (n : Int) := ⟨x.toNat, by omega⟩
  have e1 : IntKind.u64.wrap ((n : Int) * 256) = ((n * 256 % 18446744073709551616 : Nat) : Int) := by simp [IntKind.wrap, IntKind.bits, IntKind.signed]
  have e2 : IntKind.u64.wrap (c.toNat : Int) = ((c.toNat : Nat) : Int) := by simp [IntKind.wrap, IntKind.bits, IntKind.signed]; omega
  rw [e1, e2, u64_or_nat _ _ (Nat.mod_lt _ (by omega)) (by omega)]
  have := or_step 56 n c.toNat (by omega)
  rw [show (2 : Nat) ^ (56 + 8) = 18446744073709551616 by decide] at this
  rw [this]
  omega
theorem drop_cons (l : List UInt8) (i : Nat) (h : i < l.length) : l.drop i = l[i] :: l.drop (i + 1) := List.drop_eq_getElem_cons h

theorem loop16 (l : List UInt8) (b : Bool) (hl : l.length ≤ 4611686018427387904) (d : Nat) : ∀ (k i : Nat) (x : Int), l.length - i = d → i ≤ l.length → d < k → 0 ≤ x → x < 65536 →
    octet_get_uint16.l0 k b x (l.map fun c => (c.toNat : Int)) (l.length : Int) (i : Int) = some ((l.drop i).foldl (fun x c => (x * 256 + (c.toNat : Int)) % 65536) x, b) := by
  induction d with
  | zero =>
    intro k i x hd hi hk h0 h1
    obtain ⟨k, rfl⟩ : ∃ m, k = m + 1 := ⟨k - 1, by omega⟩
    rw [octet_get_uint16.l0, if_neg (by omega), List.drop_of_length_le (by omega)]
    rfl
  | succ d ih =>
    intro k i x hd hi hk h0 h1
    obtain ⟨k, rfl⟩ : ∃ m, k = m + 1 := ⟨k - 1, by omega⟩
    have hlt : i < l.length := by omega
    rw [octet_get_uint16.l0, if_pos (by omega), if_pos (by omega), if_pos (by rw [List.length_map]; omega), rd_at l i hlt, step16 x _ h0 h1, w64 (by omega), drop_cons l i hlt, List.foldl_cons]
    exact ih k (i + 1) _ (by omega) (by omega) (by omega) (Int.emod_nonneg _ (by omega)) (Int.emod_lt_of_pos _ (by omega))
theorem loop32 (l : List UInt8) (b : Bool) (hl : l.length ≤ 4611686018427387904) (d : Nat) : ∀ (k i : Nat) (x : Int), l.length - i = d → i ≤ l.length → d < k → 0 ≤ x → x < 4294967296 →
    octet_get_uint32.l0 k b x (l.map fun c => (c.toNat : Int)) (l.length : Int) (i : Int) = some ((l.drop i).foldl (fun x c => (x * 256 + (c.toNat : Int)) % 4294967296) x, b) := by
  induction d with
  | zero =>
    intro k i x hd hi hk h0 h1
    obtain ⟨k, rfl⟩ : ∃ m, k = m + 1 := ⟨k - 1, by omega⟩
    rw [octet_get_uint32.l0, if_neg (by omega), List.drop_of_length_le (by omega)]
    rfl
  | succ d ih =>
    intro k i x hd hi hk h0 h1
    obtain ⟨k, rfl⟩ : ∃ m, k = m + 1 := ⟨k - 1, by omega⟩
    have hlt : i < l.length := by omega
    rw [octet_get_uint32.l0, if_pos (by omega), if_pos (by omega), if_pos (by rw [List.length_map]; omega), rd_at l i hlt, step32 x _ h0 h1, w64 (by omega), drop_cons l i hlt, List.foldl_cons]
    exact ih k (i + 1) _ (by omega) (by omega) (by omega) (Int.emod_nonneg _ (by omega)) (Int.emod_lt_of_pos _ (by omega))
theorem loop64 (l : List UInt8) (b : Bool) (hl : l.length ≤ 4611686018427387904) (d : Nat) : ∀ (k i : Nat) (x : Int), l.length - i = d → i ≤ l.length → d < k → 0 ≤ x → x < 18446744073709551616 →
    octet_get_uint64.l0 k b x (l.map fun c => (c.toNat : Int)) (l.length : Int) (i : Int) = some ((l.drop i).foldl (fun x c => (x * 256 + (c.toNat : Int)) % 18446744073709551616) x, b) := by
  induction d with
  | zero =>
    intro k i x hd hi hk h0 h1
    obtain ⟨k, rfl⟩ : ∃ m, k = m + 1 := ⟨k - 1, by omega⟩
    rw [octet_get_uint64.l0, if_neg (by omega), List.drop_of_length_le (by omega)]
    rfl
  | succ d ih =>
    intro k i x hd hi hk h0 h1
    obtain ⟨k, rfl⟩ : ∃ m, k = m + 1 := ⟨k - 1, by omega⟩
    have hlt : i < l.length := by omega
    rw [octet_get_uint64.l0, if_pos (by omega), if_pos (by omega), if_pos (by rw [List.length_map]; omega), rd_at l i hlt, step64 x _ h0 h1, w64 (by omega), drop_cons l i hlt, List.foldl_cons]
    exact ih k (i + 1) _ (by omega) (by omega) (by omega) (Int.emod_nonneg _ (by omega)) (Int.emod_lt_of_pos _ (by omega))

/-- A number read at a place. -/
def getN (l : List UInt8) (at_ : Int) (n : Int) : Int := num (cutL l at_ n)
theorem cut_small (l : List UInt8) (at_ : Int) (n : Nat) : (cutL l at_ (n : Int)).length ≤ n := by
  rw [cutL_length]; split <;> omega
theorem getN_range (l : List UInt8) (at_ : Int) (n : Nat) : 0 ≤ getN l at_ n ∧ getN l at_ n < 256 ^ n := by
  have h := num_range (cutL l at_ n)
  refine ⟨h.1, Int.lt_of_lt_of_le h.2 ?_⟩
  have h1 := cut_small l at_ n
  have h2 : (256 : Nat) ^ (cutL l at_ n).length ≤ 256 ^ n := Nat.pow_le_pow_right (by omega) h1
  have h3 : ((256 ^ (cutL l at_ n).length : Nat) : Int) ≤ ((256 ^ n : Nat) : Int) := Int.ofNat_le.2 h2
  rw [Int.natCast_pow, Int.natCast_pow] at h3
  exact h3
theorem get16 {k : Nat} (hk : 4 ≤ k) (s : ByteArray) (at_ : Int) (hs : s.size ≤ 4611686018427387904) (ha : -9223372036854775808 ≤ at_ ∧ at_ ≤ 9223372036854775807) : octet_Get16.f k s at_ = some (getN (L s) at_ 2, cutB (L s) at_ 2) := by
  have hr : 0 ≤ getN (L s) at_ 2 ∧ getN (L s) at_ 2 < 256 ^ 2 := getN_range (L s) at_ 2
  have hc : (cutL (L s) at_ 2).length ≤ 2 := cut_small (L s) at_ 2
  unfold octet_Get16.f octet_get_uint16.f
  rw [cut s at_ 2 hs ha (by omega)]
  simp only [Option.bind_some]
  rw [conv _ (by rw [size_B]; omega)]
  simp only [Option.bind_some]
  rw [bytesOf_L, L_B, List.length_map]
  rw [show ((0 : Int)) = ((0 : Nat) : Int) from rfl]
  rw [loop16 _ _ (by omega) _ k 0 ((0 : Nat) : Int) rfl (by omega) (by omega) (by omega) (by omega)]
  simp only [Option.bind_some, List.drop_zero]
  rw [show (((0 : Nat) : Int)) = (0 : Int) % 65536 from rfl, fold_mod]
  refine congrArg some (Prod.ext ?_ rfl)
  show (num (cutL (L s) at_ 2)) % 65536 = getN (L s) at_ 2
  unfold getN at hr ⊢
  exact Int.emod_eq_of_lt hr.1 (by simpa using hr.2)
theorem get32 {k : Nat} (hk : 6 ≤ k) (s : ByteArray) (at_ : Int) (hs : s.size ≤ 4611686018427387904) (ha : -9223372036854775808 ≤ at_ ∧ at_ ≤ 9223372036854775807) : octet_Get32.f k s at_ = some (getN (L s) at_ 4, cutB (L s) at_ 4) := by
  have hr : 0 ≤ getN (L s) at_ 4 ∧ getN (L s) at_ 4 < 256 ^ 4 := getN_range (L s) at_ 4
  have hc : (cutL (L s) at_ 4).length ≤ 4 := cut_small (L s) at_ 4
  unfold octet_Get32.f octet_get_uint32.f
  rw [cut s at_ 4 hs ha (by omega)]
  simp only [Option.bind_some]
  rw [conv _ (by rw [size_B]; omega)]
  simp only [Option.bind_some]
  rw [bytesOf_L, L_B, List.length_map]
  rw [show ((0 : Int)) = ((0 : Nat) : Int) from rfl]
  rw [loop32 _ _ (by omega) _ k 0 ((0 : Nat) : Int) rfl (by omega) (by omega) (by omega) (by omega)]
  simp only [Option.bind_some, List.drop_zero]
  rw [show (((0 : Nat) : Int)) = (0 : Int) % 4294967296 from rfl, fold_mod]
  refine congrArg some (Prod.ext ?_ rfl)
  show (num (cutL (L s) at_ 4)) % 4294967296 = getN (L s) at_ 4
  unfold getN at hr ⊢
  exact Int.emod_eq_of_lt hr.1 (by simpa using hr.2)
theorem get64 {k : Nat} (hk : 10 ≤ k) (s : ByteArray) (at_ : Int) (hs : s.size ≤ 4611686018427387904) (ha : -9223372036854775808 ≤ at_ ∧ at_ ≤ 9223372036854775807) : octet_Get64.f k s at_ = some (getN (L s) at_ 8, cutB (L s) at_ 8) := by
  have hr : 0 ≤ getN (L s) at_ 8 ∧ getN (L s) at_ 8 < 256 ^ 8 := getN_range (L s) at_ 8
  have hc : (cutL (L s) at_ 8).length ≤ 8 := cut_small (L s) at_ 8
  unfold octet_Get64.f octet_get_uint64.f
  rw [cut s at_ 8 hs ha (by omega)]
  simp only [Option.bind_some]
  rw [conv _ (by rw [size_B]; omega)]
  simp only [Option.bind_some]
  rw [bytesOf_L, L_B, List.length_map]
  rw [show ((0 : Int)) = ((0 : Nat) : Int) from rfl]
  rw [loop64 _ _ (by omega) _ k 0 ((0 : Nat) : Int) rfl (by omega) (by omega) (by omega) (by omega)]
  simp only [Option.bind_some, List.drop_zero]
  rw [show (((0 : Nat) : Int)) = (0 : Int) % 18446744073709551616 from rfl, fold_mod]
  refine congrArg some (Prod.ext ?_ rfl)
  show (num (cutL (L s) at_ 8)) % 18446744073709551616 = getN (L s) at_ 8
  unfold getN at hr ⊢
  exact Int.emod_eq_of_lt hr.1 (by simpa using hr.2)

theorem Put16 {k : Nat} (hk : 4 ≤ k) (a : Int) (h0 : 0 ≤ a) (h1 : a < 65536) : octet_Put16.f k a = some (B (be2 a)) := by
  unfold octet_Put16.f; rw [put16 hk a h0 h1]; rfl
theorem Put32 {k : Nat} (hk : 6 ≤ k) (a : Int) (h0 : 0 ≤ a) (h1 : a < 4294967296) : octet_Put32.f k a = some (B (be4 a)) := by
  unfold octet_Put32.f; rw [put32 hk a h0 h1]; rfl
theorem Put64 {k : Nat} (hk : 10 ≤ k) (a : Int) (h0 : 0 ≤ a) (h1 : a < 18446744073709551616) : octet_Put64.f k a = some (B (be8 a)) := by
  unfold octet_Put64.f; rw [put64 hk a h0 h1]; rfl
theorem u16_wrap (n : Int) : IntKind.u16.wrap n = n % 65536 := by simp [IntKind.wrap, IntKind.bits, IntKind.signed]
theorem u64_wrap (n : Int) : IntKind.u64.wrap n = n % 18446744073709551616 := by simp [IntKind.wrap, IntKind.bits, IntKind.signed]
theorem be2_length (a : Int) : (be2 a).length = 2 := rfl
theorem be4_length (a : Int) : (be4 a).length = 4 := rfl
theorem be8_length (a : Int) : (be8 a).length = 8 := rfl
/-- A length of 16 bits and as many bytes. -/
def runOk (l : List UInt8) : Bool := decide (l.length ≤ 65535)
def runL (l : List UInt8) : List UInt8 := if runOk l = true then be2 l.length ++ l else []
theorem run {k : Nat} (hk : 4 ≤ k) (s : ByteArray) : octet_Run.f k s = some (B (runL (L s)), runOk (L s)) := by
  unfold octet_Run.f runL
  have hl : ((L s).length : Int) = s.size := by rw [size_L]
  by_cases h : (s.size : Int) > 65535
  · have hb : runOk (L s) = false := by simp only [runOk, decide_eq_false_iff_not]; omega
    rw [if_pos h, hb]; rfl
  · have hb : runOk (L s) = true := by simp only [runOk, decide_eq_true_eq]; omega
    rw [if_neg h, hb, if_pos rfl, u16_wrap, Int.emod_eq_of_lt (by omega) (by omega), Put16 hk _ (by omega) (by omega)]
    simp only [Option.bind_some]
    rw [if_pos (by rw [size_B, be2_length]; omega), hl]
    refine congrArg some (Prod.ext ?_ rfl)
    apply ext_L
    rw [L_append, L_B, L_B]
/-- The run at a place: its bytes, the place behind it. -/
def takeOk (l : List UInt8) (at_ : Int) : Bool := cutB l at_ 2 && cutB l (at_ + 2) (getN l at_ 2)
def takeL (l : List UInt8) (at_ : Int) : List UInt8 := if takeOk l at_ = true then cutL l (at_ + 2) (getN l at_ 2) else []
def takeTo (l : List UInt8) (at_ : Int) : Int := if takeOk l at_ = true then at_ + 2 + getN l at_ 2 else 0
theorem cutB_bound {l : List UInt8} {at_ n : Int} (h : cutB l at_ n = true) : 0 ≤ at_ ∧ 0 ≤ n ∧ at_ + n ≤ l.length := by simpa [cutB] using h
theorem takeRun {k : Nat} (hk : 4 ≤ k) (s : ByteArray) (at_ : Int) (hs : s.size ≤ 4611686018427387904) (ha : -9223372036854775808 ≤ at_ ∧ at_ ≤ 9223372036854775807) :
    octet_TakeRun.f k s at_ = some (B (takeL (L s) at_), takeTo (L s) at_, takeOk (L s) at_) := by
  have hl : ((L s).length : Int) = s.size := by rw [size_L]
  have hr : 0 ≤ getN (L s) at_ 2 ∧ getN (L s) at_ 2 < 256 ^ 2 := getN_range (L s) at_ 2
  have hr2 : getN (L s) at_ 2 < 65536 := by simpa using hr.2
  unfold octet_TakeRun.f takeL takeTo takeOk
  rw [get16 hk s at_ hs ha]
  simp only [Option.bind_some]
  by_cases h1 : cutB (L s) at_ 2 = true
  · have hb := cutB_bound h1
    rw [if_pos h1, h1, w64 (n := at_ + 2) (by omega), w64 (n := getN (L s) at_ 2) (by omega), cut s _ _ hs (by omega) (by omega)]
    simp only [Option.bind_some, Bool.true_and]
    by_cases h2 : cutB (L s) (at_ + 2) (getN (L s) at_ 2) = true
    · have hb2 := cutB_bound h2
      rw [if_pos h2, h2, if_pos rfl, if_pos rfl, size_B, cutL_length, h2, if_pos rfl]
      refine congrArg some (Prod.ext rfl (Prod.ext ?_ rfl))
      show wrap64 _ = at_ + 2 + getN (L s) at_ 2
      rw [w64 (by omega)]
      omega
    · replace h2 := Bool.eq_false_iff.mpr h2
      rw [h2, if_neg (by decide), if_neg (by decide), if_neg (by decide)]; rfl
  · replace h1 := Bool.eq_false_iff.mpr h1
    rw [h1, if_neg (by decide)]
    rfl
theorem putAddr {k : Nat} (hk : 10 ≤ k) (a b : Int) (h0 : 0 ≤ a ∧ a < 18446744073709551616) (h1 : 0 ≤ b ∧ b < 18446744073709551616) : octet_PutAddr.f k a b = some (B (be8 a ++ be8 b)) := by
  unfold octet_PutAddr.f
  rw [Put64 hk a h0.1 h0.2, Put64 hk b h1.1 h1.2]
  simp only [Option.bind_some]
  rw [if_pos (by rw [size_B, size_B, be8_length, be8_length]; omega), B_append]
theorem getAddr {k : Nat} (hk : 10 ≤ k) (s : ByteArray) (at_ : Int) (hs : s.size ≤ 4611686018427387904) (ha : -9223372036854775808 ≤ at_ ∧ at_ ≤ 9223372036854775807) :
    octet_GetAddr.f k s at_ = some (if cutB (L s) at_ 16 = true then (getN (cutL (L s) at_ 16) 0 8, getN (cutL (L s) at_ 16) 8 8, true) else (0, 0, false)) := by
  unfold octet_GetAddr.f
  rw [cut s at_ 16 hs ha (by omega)]
  simp only [Option.bind_some]
  by_cases h : cutB (L s) at_ 16 = true
  · have hc : (cutL (L s) at_ 16).length ≤ 16 := cut_small (L s) at_ 16
    rw [if_pos h, if_pos h, get64 hk _ 0 (by rw [size_B]; omega) (by omega), get64 hk _ 8 (by rw [size_B]; omega) (by omega)]
    rfl
  · rw [if_neg h, if_neg h]
theorem cutB_mid (a w s : List UInt8) (n : Int) (hn : n = w.length) : cutB (a ++ w ++ s) (a.length : Int) n = true := by
  simp only [cutB, decide_eq_true_eq, List.length_append]; omega
theorem cutL_mid (a w s : List UInt8) (n : Int) (hn : n = w.length) : cutL (a ++ w ++ s) (a.length : Int) n = w := by
  unfold cutL
  rw [cutB_mid a w s n hn, if_pos rfl, hn, Int.toNat_natCast, Int.toNat_natCast, List.append_assoc, List.drop_left, List.take_left]
theorem cutB_short (a w : List UInt8) (n : Int) (hn : (w.length : Int) < n) : cutB (a ++ w) (a.length : Int) n = false := by
  simp only [cutB, decide_eq_false_iff_not, List.length_append]; omega
theorem getN_mid (a w s : List UInt8) (n : Int) (hn : n = w.length) : getN (a ++ w ++ s) (a.length : Int) n = num w := by
  unfold getN; rw [cutL_mid a w s n hn]
theorem cutB_head (w s : List UInt8) (n : Int) (hn : n = w.length) : cutB (w ++ s) 0 n = true := cutB_mid [] w s n hn
theorem cutL_head (w s : List UInt8) (n : Int) (hn : n = w.length) : cutL (w ++ s) 0 n = w := cutL_mid [] w s n hn
theorem getN_head (w s : List UInt8) (n : Int) (hn : n = w.length) : getN (w ++ s) 0 n = num w := getN_mid [] w s n hn
/-- A run that stands between two pieces. -/
theorem take_mid (a r s : List UInt8) (hr : r.length ≤ 65535) : takeOk (a ++ (be2 r.length ++ r) ++ s) (a.length : Int) = true ∧ takeL (a ++ (be2 r.length ++ r) ++ s) (a.length : Int) = r ∧ takeTo (a ++ (be2 r.length ++ r) ++ s) (a.length : Int) = a.length + 2 + r.length := by
  have e1 : a ++ (be2 r.length ++ r) ++ s = a ++ be2 r.length ++ (r ++ s) := by simp [List.append_assoc]
  have e2 : a ++ (be2 r.length ++ r) ++ s = (a ++ be2 r.length) ++ r ++ s := by simp [List.append_assoc]
  have hg : getN (a ++ (be2 r.length ++ r) ++ s) (a.length : Int) 2 = r.length := by
    rw [e1, getN_mid a (be2 r.length) (r ++ s) 2 rfl, num_be2 _ (by omega) (by omega)]
  have h1 : cutB (a ++ (be2 r.length ++ r) ++ s) (a.length : Int) 2 = true := by rw [e1]; exact cutB_mid _ _ _ _ rfl
  have hl : ((a ++ be2 r.length).length : Int) = (a.length : Int) + 2 := by rw [List.length_append, be2_length]; omega
  have h2 : cutB (a ++ (be2 r.length ++ r) ++ s) ((a.length : Int) + 2) (r.length : Int) = true := by
    rw [e2, ← hl]; exact cutB_mid _ _ _ _ rfl
  have h3 : cutL (a ++ (be2 r.length ++ r) ++ s) ((a.length : Int) + 2) (r.length : Int) = r := by
    rw [e2, ← hl]; exact cutL_mid _ _ _ _ rfl
  have ho : takeOk (a ++ (be2 r.length ++ r) ++ s) (a.length : Int) = true := by unfold takeOk; rw [h1, hg, h2]; rfl
  refine ⟨ho, ?_, ?_⟩
  · unfold takeL; rw [ho, if_pos rfl, hg, h3]
  · unfold takeTo; rw [ho, if_pos rfl, hg]
/-- Cut before its end it is none. -/
theorem take_short (a r : List UInt8) (k : Nat) (hr : r.length ≤ 65535) (hk : k < 2 + r.length) : takeOk (a ++ (be2 r.length ++ r).take k) (a.length : Int) = false := by
  unfold takeOk
  by_cases h2 : k < 2
  · rw [cutB_short a _ 2 (by rw [List.length_take, List.length_append, be2_length]; omega)]; rfl
  · have e1 : (be2 r.length ++ r).take k = be2 r.length ++ r.take (k - 2) := by
      rw [List.take_append, be2_length, List.take_of_length_le (by rw [be2_length]; omega)]
    have hg : getN (a ++ (be2 r.length ++ r).take k) (a.length : Int) 2 = r.length := by
      rw [e1, ← List.append_assoc, getN_mid a (be2 r.length) _ 2 rfl, num_be2 _ (by omega) (by omega)]
    have hl : ((a ++ be2 r.length).length : Int) = (a.length : Int) + 2 := by rw [List.length_append, be2_length]; omega
    rw [hg, e1, ← List.append_assoc, ← hl, cutB_short _ _ _ (by rw [List.length_take]; omega), Bool.and_false]
end Go.Proofs.Ythadapbekmmgpaa.Oct


set_option linter.unusedVariables false
set_option linter.unusedSimpArgs false
namespace Go.Proofs.Ythadapbekmmgpaa.O6
open Go Go.RowKit Go.Proofs.YthadapbekmmgpaaW.PrintWords Go.Proofs.YthadapbekmmgpaaW.PrintLast Go.Proofs.YthadapbekmmgpaaW.PrintMore Go.Proofs.Ythadapbekmmgpaa.X Go.Proofs.Ythadapbekmmgpaa.Oct
abbrev NIL : ByteArray := ⟨#[]⟩
/-- Options read one behind the other. -/
def prs (l : List UInt8) : Nat → List S42 → Int → List S42 × Int
  | 0, acc, _ => (acc, 0)
  | d + 1, acc, i => if i < l.length then (if cutB l i 2 = true ∧ takeOk l (i + 2) = true then (if 128 ≤ acc.length then ([], 6) else prs l d (acc ++ [⟨getN l i 2, B (takeL l (i + 2))⟩]) (takeTo l (i + 2))) else ([], 3)) else (acc, 0)
theorem take_bound {l : List UInt8} {i : Int} (h : takeOk l (i + 2) = true) : i + 4 ≤ takeTo l (i + 2) ∧ takeTo l (i + 2) ≤ l.length := by
  have hr := getN_range l (i + 2) 2
  unfold takeTo
  rw [if_pos h]
  unfold takeOk at h
  rw [Bool.and_eq_true] at h
  have := cutB_bound h.2
  omega
theorem parse_go (s : ByteArray) (hs : s.size ≤ 4611686018427387904) (d : Nat) : ∀ (k : Nat) (acc : List S42) (i : Int), 0 ≤ i → i ≤ s.size → (s.size : Int) - i < d → 2 * (129 - acc.length) + 20 ≤ k → acc.length ≤ 128 →
    opt6_Parse.l0 k s acc i = some (prs (L s) d acc i) := by
  have hsz : ((L s).length : Int) = s.size := by rw [size_L]
  induction d with
  | zero => intro k acc i h0 h1 hd; omega
  | succ d ih =>
    intro k acc i h0 h1 hd hk hacc
    obtain ⟨k, rfl⟩ : ∃ m, k = m + 2 := ⟨k - 2, by omega⟩
    rw [opt6_Parse.l0, prs]
    by_cases hlt : i < (s.size : Int)
    · rw [if_pos hlt, if_pos (by rw [hsz]; exact hlt), get16 (by omega) s i hs (by omega), Option.bind_some, w64 (n := i + 2) (by omega), takeRun (by omega) s (i + 2) hs (by omega), Option.bind_some]
      dsimp only
      have hj : ∀ b, opt6_Parse.j1 (k + 1) s acc (getN (L s) i 2) (B (takeL (L s) (i + 2))) (takeTo (L s) (i + 2)) b = if b = true then some (([] : List S42), 3) else if 128 ≤ acc.length then some ([], 6) else opt6_Parse.l0 k s (acc ++ [⟨getN (L s) i 2, B (takeL (L s) (i + 2))⟩]) (takeTo (L s) (i + 2)) := by
        intro b
        rw [opt6_Parse.j1]
        by_cases hb : b = true
        · rw [if_pos hb, if_pos hb]
        · rw [if_neg hb, if_neg hb]
          by_cases h128 : 128 ≤ acc.length
          · rw [if_pos (by omega), if_pos h128]
          · rw [if_neg (by omega), if_neg h128, if_pos (by omega)]
      by_cases hc : cutB (L s) i 2 = true
      · rw [if_pos hc, hj]
        by_cases ht : takeOk (L s) (i + 2) = true
        · rw [if_neg (by rw [ht]; decide), if_pos (show cutB (L s) i 2 = true ∧ takeOk (L s) (i + 2) = true from ⟨hc, ht⟩)]
          have hb := take_bound ht
          by_cases h128 : 128 ≤ acc.length
          · rw [if_pos h128, if_pos h128]
          · rw [if_neg h128, if_neg h128]
            exact ih k _ _ (by omega) (by omega) (by omega) (by rw [List.length_append, List.length_singleton]; omega) (by rw [List.length_append, List.length_singleton]; omega)
        · rw [if_pos (by rw [Bool.eq_false_iff.2 ht]; rfl), if_neg (fun h => ht h.2)]
      · rw [if_neg hc, hj, if_pos rfl, if_neg (fun h => hc h.1)]
    · rw [if_neg hlt, if_neg (by rw [hsz]; exact hlt)]
/-- What stands in what was read: runs, and numbers of 16 bits. -/
def okO (x : S42) : Prop := x.f1.size ≤ 65535 ∧ 0 ≤ x.f0 ∧ x.f0 < 65536
theorem takeL_small (l : List UInt8) (i : Int) : (takeL l i).length ≤ 65535 := by
  have hr := getN_range l i 2
  have hr2 : getN l i 2 < 65536 := by simpa using hr.2
  unfold takeL
  split
  · rw [cutL_length]; split <;> omega
  · exact Nat.zero_le _
theorem prs_ok_ (l : List UInt8) (d : Nat) : ∀ (acc : List S42) (i : Int) (r : List S42 × Int), acc.length ≤ 128 → (∀ x ∈ acc, okO x) → prs l d acc i = r → (∀ x ∈ r.1, okO x) ∧ r.1.length ≤ 128 := by
  induction d with
  | zero => intro acc i r hl h e; rw [prs] at e; subst e; exact ⟨h, hl⟩
  | succ d ih =>
    intro acc i r hl h e
    rw [prs] at e
    by_cases h1 : i < (l.length : Int)
    · rw [if_pos h1] at e
      by_cases h2 : cutB l i 2 = true ∧ takeOk l (i + 2) = true
      · rw [if_pos h2] at e
        by_cases h3 : 128 ≤ acc.length
        · rw [if_pos h3] at e; subst e; exact ⟨fun x hx => (by cases hx), Nat.zero_le _⟩
        · rw [if_neg h3] at e
          refine ih _ _ r (by rw [List.length_append, List.length_singleton]; omega) (fun x hx => ?_) e
          rcases List.mem_append.1 hx with hx | hx
          · exact h x hx
          · obtain rfl := List.mem_singleton.1 hx
            have hr := getN_range l i 2
            exact ⟨takeL_small _ _, hr.1, by simpa using hr.2⟩
      · rw [if_neg h2] at e; subst e; exact ⟨fun x hx => (by cases hx), Nat.zero_le _⟩
    · rw [if_neg h1] at e; subst e; exact ⟨h, hl⟩
theorem prs_ok (l : List UInt8) (d : Nat) (acc : List S42) (i : Int) (hl : acc.length ≤ 128) (h : ∀ x ∈ acc, okO x) : (∀ x ∈ (prs l d acc i).1, okO x) ∧ (prs l d acc i).1.length ≤ 128 := prs_ok_ l d acc i _ hl h rfl
def emOk (zs : List S42) : Bool := zs.all fun x => runOk (L x.f1)
def emL : List S42 → List UInt8
  | [] => []
  | x :: zs => (be2 x.f0 ++ runL (L x.f1)) ++ emL zs
def okF (x : S42) : Prop := 0 ≤ x.f0 ∧ x.f0 < 65536
theorem runL_len (l : List UInt8) : (runL l).length ≤ 65537 := by
  unfold runL
  split
  · rename_i h
    simp only [runOk, decide_eq_true_eq] at h
    rw [List.length_append, be2_length]; omega
  · exact Nat.zero_le _
theorem emL_len : ∀ zs : List S42, (emL zs).length ≤ 65539 * zs.length
  | [] => Nat.le_refl _
  | x :: zs => by
    have := emL_len zs
    have := runL_len (L x.f1)
    rw [emL, List.length_append, List.length_append, be2_length, List.length_cons]
    omega
theorem emit_l : ∀ (zs : List S42) (acc : ByteArray), (∀ x ∈ zs, okF x) → acc.size + 65539 * zs.length ≤ 140737488355328 → opt6_Emit.l zs acc = some (if emOk zs = true then (acc ++ B (emL zs), 0) else (NIL, 130))
  | [], acc, _, _ => by
    rw [opt6_Emit.l]
    refine congrArg some (Prod.ext ?_ rfl)
    apply ext_L
    show L acc = L (acc ++ B [])
    rw [L_append, L_B, List.append_nil]
  | x :: zs, acc, hz, hl => by
    have hx := hz x List.mem_cons_self
    rw [List.length_cons] at hl
    rw [opt6_Emit.l, run (by decide) x.f1, Option.bind_some]
    dsimp only
    cases hr : runOk (L x.f1) with
    | false =>
      have he : emOk (x :: zs) = false := by unfold emOk; rw [List.all_cons, hr]; rfl
      rw [if_neg (by decide), he]
      rfl
    | true =>
      have he : emOk (x :: zs) = emOk zs := by unfold emOk; rw [List.all_cons, hr, Bool.true_and]
      have hb := runL_len (L x.f1)
      rw [if_pos rfl, Put16 (by decide) x.f0 hx.1 hx.2, Option.bind_some, if_pos (by rw [size_B, size_B, be2_length]; omega), emit_l zs _ (fun y hy => hz y (List.mem_cons_of_mem _ hy)) (by rw [ByteArray.size_append, ByteArray.size_append, size_B, size_B, be2_length]; omega), he]
      by_cases h : emOk zs = true
      · rw [if_pos h, if_pos h, emL]
        refine congrArg some (Prod.ext ?_ rfl)
        apply ext_L
        simp only [L_append, L_B, List.append_assoc]
      · rw [if_neg h, if_neg h]
theorem emit_eq (zs : List S42) (hz : ∀ x ∈ zs, okF x) (hl : zs.length ≤ 128) : opt6_Emit.f zs = some (if emOk zs = true then (B (emL zs), 0) else (NIL, 130)) := by
  unfold opt6_Emit.f
  rw [if_neg (by omega), emit_l zs _ hz (by show 0 + _ ≤ _; omega)]
  by_cases h : emOk zs = true
  · rw [if_pos h, if_pos h]
    refine congrArg some (Prod.ext ?_ rfl)
    apply ext_L
    rw [L_append, L_B]
    rfl
  · rw [if_neg h, if_neg h]
theorem emOk_cons {x : S42} {zs : List S42} (h : emOk (x :: zs) = true) : runOk (L x.f1) = true ∧ emOk zs = true := by
  unfold emOk at h ⊢
  rwa [List.all_cons, Bool.and_eq_true] at h
theorem prs_emit : ∀ (zs : List S42) (pre : List UInt8) (d : Nat) (acc : List S42), emOk zs = true → (∀ x ∈ zs, okF x) → acc.length + zs.length ≤ 128 → zs.length < d → prs (pre ++ emL zs) d acc (pre.length : Int) = (acc ++ zs, 0)
  | [], pre, d, acc, _, _, _, hd => by
    obtain ⟨d, rfl⟩ : ∃ m, d = m + 1 := ⟨d - 1, by simp at hd; omega⟩
    rw [prs, emL, List.append_nil, if_neg (by omega), List.append_nil]
  | x :: zs, pre, d, acc, ho, hz, hl, hd => by
    rw [List.length_cons] at hl hd
    obtain ⟨d, rfl⟩ : ∃ m, d = m + 1 := ⟨d - 1, by omega⟩
    obtain ⟨h1, h2⟩ := emOk_cons ho
    have hx := hz x List.mem_cons_self
    have hr : (L x.f1).length ≤ 65535 := by simpa [runOk] using h1
    have hrun : runL (L x.f1) = be2 (L x.f1).length ++ L x.f1 := by unfold runL; rw [if_pos h1]
    have e1 : pre ++ emL (x :: zs) = pre ++ be2 x.f0 ++ ((be2 (L x.f1).length ++ L x.f1) ++ emL zs) := by rw [emL, hrun]; simp only [List.append_assoc]
    have e2 : pre ++ emL (x :: zs) = (pre ++ be2 x.f0) ++ (be2 (L x.f1).length ++ L x.f1) ++ emL zs := by rw [emL, hrun]; simp only [List.append_assoc]
    have hpl : ((pre ++ be2 x.f0).length : Int) = (pre.length : Int) + 2 := by rw [List.length_append, be2_length]; omega
    have hc : cutB (pre ++ emL (x :: zs)) (pre.length : Int) 2 = true := by rw [e1]; exact cutB_mid _ _ _ _ rfl
    have hg : getN (pre ++ emL (x :: zs)) (pre.length : Int) 2 = x.f0 := by rw [e1, getN_mid pre (be2 x.f0) _ 2 rfl, num_be2 _ hx.1 hx.2]
    obtain ⟨t1, t2, t3⟩ := take_mid (pre ++ be2 x.f0) (L x.f1) (emL zs) hr
    rw [← e2, hpl] at t1 t2 t3
    have hpos : (pre.length : Int) < ((pre ++ emL (x :: zs)).length : Int) := by rw [e1, List.length_append, List.length_append, be2_length]; omega
    have hpre : ((pre ++ be2 x.f0 ++ (be2 (L x.f1).length ++ L x.f1)).length : Int) = (pre.length : Int) + 2 + 2 + ((L x.f1).length : Int) := by
      rw [List.length_append, List.length_append, List.length_append, be2_length, be2_length]; omega
    rw [prs, if_pos hpos, if_pos ⟨hc, t1⟩, if_neg (by omega), hg, t2, t3, B_L, ← hpre, e2]
    have ih := prs_emit zs (pre ++ be2 x.f0 ++ (be2 (L x.f1).length ++ L x.f1)) d (acc ++ [x]) h2 (fun y hy => hz y (List.mem_cons_of_mem _ hy)) (by rw [List.length_append, List.length_singleton]; omega) (by omega)
    rw [ih, List.append_assoc]
    rfl
theorem emL_ge : ∀ zs : List S42, zs.length ≤ (emL zs).length
  | [] => Nat.le_refl _
  | x :: zs => by
    have := emL_ge zs
    rw [emL, List.length_append, List.length_append, be2_length, List.length_cons]
    omega
theorem drop_at (zs : List S42) (i : Nat) (h : i < zs.length) : zs.drop i = rd_T42 zs (i : Int) :: zs.drop (i + 1) := by
  rw [List.drop_eq_getElem_cons h]
  simp [rd_T42, List.getD_eq_getElem?_getD, List.getElem?_eq_getElem h]
theorem byte_range (c : UInt8) : -9223372036854775808 ≤ (c.toNat : Int) ∧ (c.toNat : Int) ≤ 9223372036854775807 := by have := c.toNat_lt; omega
/-- All options of bytes. -/
def opts (l : List UInt8) : List S42 × Int := prs l (l.length + 1) [] 0
theorem parse_eq (s : ByteArray) (hs : s.size ≤ 4611686018427387904) (k : Nat) (hk : 300 ≤ k) : opt6_Parse.f k s = some (opts (L s)) := by
  unfold opt6_Parse.f opts
  rw [parse_go s hs (s.size + 1) k [] 0 (by omega) (by omega) (by omega) (by simp; omega) (by decide), size_L]
theorem opts_ok (l : List UInt8) : (∀ x ∈ (opts l).1, okO x) ∧ (opts l).1.length ≤ 128 := prs_ok l _ [] 0 (by decide) (fun x h => by cases h)
theorem opts_emit (zs : List S42) (ho : emOk zs = true) (hz : ∀ x ∈ zs, okF x) (hl : zs.length ≤ 128) : opts (emL zs) = (zs, 0) :=
  prs_emit zs [] ((emL zs).length + 1) [] ho hz (by simpa using hl) (by have := emL_ge zs; omega)
theorem extract_from (s : ByteArray) (n : Nat) : L (s.extract n s.size) = (L s).drop n := by
  rw [L_extract, List.take_of_length_le (by rw [List.length_drop, size_L]; omega)]
theorem getStatus_eq (s : ByteArray) (hs : s.size ≤ 4611686018427387904) (k : Nat) (hk : 10 ≤ k) : opt6_GetStatus.f k s = some (if cutB (L s) 0 2 = true then (getN (L s) 0 2, true) else (-1, false)) := by
  unfold opt6_GetStatus.f
  rw [get16 (by omega) s 0 hs (by omega), Option.bind_some]
  dsimp only
  by_cases h : cutB (L s) 0 2 = true
  · have hr : 0 ≤ getN (L s) 0 2 ∧ getN (L s) 0 2 < 65536 := by have := getN_range (L s) 0 2; simpa using this
    rw [if_pos h, if_pos h, w64 (by omega)]
  · rw [if_neg h, if_neg h]
theorem isCode_eq (c : Int) : opt6_isCode.f c = some (decide (-1 ≤ c ∧ c ≤ 65535)) := by
  unfold opt6_isCode.f
  by_cases h : c ≥ -1
  · rw [if_pos h]
    by_cases h2 : c ≤ 65535
    · rw [decide_eq_true h2, decide_eq_true (show -1 ≤ c ∧ c ≤ 65535 from ⟨h, h2⟩)]
    · rw [decide_eq_false h2, decide_eq_false (fun q => h2 q.2)]
  · rw [if_neg h, decide_eq_false (fun q => h q.1)]
/-- A status's data. -/
def stD (c : Int) : List UInt8 := if 0 ≤ c ∧ c ≤ 65535 then be2 c else []
theorem putStatus_eq (c : Int) (k : Nat) (hk : 10 ≤ k) : opt6_PutStatus.f k c = some (B (stD c)) := by
  unfold opt6_PutStatus.f stD
  by_cases h1 : c = -1
  · rw [if_pos h1, if_neg (by omega)]
    rfl
  · rw [if_neg h1, isCode_eq, Option.bind_some]
    by_cases h2 : -1 ≤ c ∧ c ≤ 65535
    · rw [if_pos (decide_eq_true h2), u16_wrap, if_pos (by omega), Int.emod_eq_of_lt (by omega) (by omega), Put16 (by omega) c (by omega) (by omega), Option.bind_some]
    · rw [if_neg (by simpa using h2), if_neg (by omega)]
      rfl
end Go.Proofs.Ythadapbekmmgpaa.O6


namespace Go.Proofs.Ythadapbekmmgpaa.X
open Go Go.RowKit Go.Proofs.YthadapbekmmgpaaW.PrintWords Go.Proofs.YthadapbekmmgpaaW.PrintLast Go.Proofs.YthadapbekmmgpaaW.PrintMore
def wf42 (x : S42) : Prop := ((Lit.int .u16 x.f0).wf = true) ∧ (x.f1.size ≤ 140737488351232)
theorem opens42 : XRow.Opens Try.prog 42 k42 wf42 := XRow.opens_iso (fun x_ : S42 => (x_.f0, x_.f1)) (fun p_ => ⟨p_.1, p_.2⟩) (fun _ => rfl) (XRow.opens_struct (total := 2) Try.underlying42 (by kernel_rfl) (XRow.opensF_cons (k := 1) rfl (by kernel_rfl) (by decide) (by decide) (XRow.opens_int Try.underlying40) (XRow.opensF_one rfl (by kernel_rfl) (XRow.opens_string Try.underlying9))))
def wf54 (x : S54) : Prop := ((Lit.int .u64 x.f0).wf = true) ∧ ((Lit.int .u64 x.f1).wf = true)
theorem opens54 : XRow.Opens Try.prog 54 k54 wf54 := XRow.opens_iso (fun x_ : S54 => (x_.f0, x_.f1)) (fun p_ => ⟨p_.1, p_.2⟩) (fun _ => rfl) (XRow.opens_struct (total := 2) Try.underlying54 (by kernel_rfl) (XRow.opensF_cons (k := 1) rfl (by kernel_rfl) (by decide) (by decide) (XRow.opens_int Try.underlying52) (XRow.opensF_one rfl (by kernel_rfl) (XRow.opens_int Try.underlying52))))
def wf56 (x : S56) : Prop := (wf54 x.f0) ∧ ((Lit.int .i64 x.f1).wf = true)
theorem opens56 : XRow.Opens Try.prog 56 k56 wf56 := XRow.opens_iso (fun x_ : S56 => (x_.f0, x_.f1)) (fun p_ => ⟨p_.1, p_.2⟩) (fun _ => rfl) (XRow.opens_struct (total := 3) Try.underlying56 (by kernel_rfl) (XRow.opensF_cons (k := 2) rfl (by kernel_rfl) (by decide) (by decide) opens54 (XRow.opensF_one rfl (by kernel_rfl) (XRow.opens_int Try.underlying3))))
def wf58 (x : S58) : Prop := (wf56 x.f0) ∧ ((Lit.int .u32 x.f1).wf = true) ∧ ((Lit.int .u32 x.f2).wf = true) ∧ ((Lit.int .i64 x.f3).wf = true)
theorem opens58 : XRow.Opens Try.prog 58 k58 wf58 := XRow.opens_iso (fun x_ : S58 => (x_.f0, x_.f1, x_.f2, x_.f3)) (fun p_ => ⟨p_.1, p_.2.1, p_.2.2.1, p_.2.2.2⟩) (fun _ => rfl) (XRow.opens_struct (total := 6) Try.underlying58 (by kernel_rfl) (XRow.opensF_cons (k := 3) rfl (by kernel_rfl) (by decide) (by decide) opens56 (XRow.opensF_cons (k := 1) rfl (by kernel_rfl) (by decide) (by decide) (XRow.opens_int Try.underlying22) (XRow.opensF_cons (k := 1) rfl (by kernel_rfl) (by decide) (by decide) (XRow.opens_int Try.underlying22) (XRow.opensF_one rfl (by kernel_rfl) (XRow.opens_int Try.underlying3))))))
def wf51 (x : S51) : Prop := ((Lit.int .i64 x.f0).wf = true) ∧ ((Lit.int .u32 x.f1).wf = true) ∧ ((Lit.int .u32 x.f2).wf = true) ∧ ((Lit.int .u32 x.f3).wf = true) ∧ (x.f4.length * 40 ≤ 140737488351232 ∧ ∀ y_ ∈ x.f4, wf58 y_) ∧ ((Lit.int .i64 x.f5).wf = true)
theorem opens51 : XRow.Opens Try.prog 51 k51 wf51 := XRow.opens_iso (fun x_ : S51 => (x_.f0, x_.f1, x_.f2, x_.f3, x_.f4, x_.f5)) (fun p_ => ⟨p_.1, p_.2.1, p_.2.2.1, p_.2.2.2.1, p_.2.2.2.2.1, p_.2.2.2.2.2⟩) (fun _ => rfl) (XRow.opens_struct (total := 6) Try.underlying51 (by kernel_rfl) (XRow.opensF_cons (k := 1) rfl (by kernel_rfl) (by decide) (by decide) (XRow.opens_int Try.underlying3) (XRow.opensF_cons (k := 1) rfl (by kernel_rfl) (by decide) (by decide) (XRow.opens_int Try.underlying22) (XRow.opensF_cons (k := 1) rfl (by kernel_rfl) (by decide) (by decide) (XRow.opens_int Try.underlying22) (XRow.opensF_cons (k := 1) rfl (by kernel_rfl) (by decide) (by decide) (XRow.opens_int Try.underlying22) (XRow.opensF_cons (k := 1) rfl (by kernel_rfl) (by decide) (by decide) (XRow.opens_slice (B := 40) Try.underlying49 (by kernel_rfl) (by kernel_rfl) opens58) (XRow.opensF_one rfl (by kernel_rfl) (XRow.opens_int Try.underlying3))))))))
def wf26 (x : S26) : Prop := ((Lit.int .i64 x.f0).wf = true) ∧ ((Lit.int .u32 x.f1).wf = true) ∧ (x.f2.size ≤ 140737488351232) ∧ (x.f3.size ≤ 140737488351232) ∧ (x.f4.length * 56 ≤ 140737488351232 ∧ ∀ y_ ∈ x.f4, wf51 y_) ∧ ((Lit.int .i64 x.f5).wf = true) ∧ (True) ∧ (True) ∧ ((Lit.int .i64 x.f8).wf = true) ∧ (x.f9.length * 24 ≤ 140737488351232 ∧ ∀ y_ ∈ x.f9, wf42 y_)
theorem opens26 : XRow.Opens Try.prog 26 k26 wf26 := XRow.opens_iso (fun x_ : S26 => (x_.f0, x_.f1, x_.f2, x_.f3, x_.f4, x_.f5, x_.f6, x_.f7, x_.f8, x_.f9)) (fun p_ => ⟨p_.1, p_.2.1, p_.2.2.1, p_.2.2.2.1, p_.2.2.2.2.1, p_.2.2.2.2.2.1, p_.2.2.2.2.2.2.1, p_.2.2.2.2.2.2.2.1, p_.2.2.2.2.2.2.2.2.1, p_.2.2.2.2.2.2.2.2.2⟩) (fun _ => rfl) (XRow.opens_struct (total := 10) Try.underlying26 (by kernel_rfl) (XRow.opensF_cons (k := 1) rfl (by kernel_rfl) (by decide) (by decide) (XRow.opens_int Try.underlying3) (XRow.opensF_cons (k := 1) rfl (by kernel_rfl) (by decide) (by decide) (XRow.opens_int Try.underlying22) (XRow.opensF_cons (k := 1) rfl (by kernel_rfl) (by decide) (by decide) (XRow.opens_string Try.underlying9) (XRow.opensF_cons (k := 1) rfl (by kernel_rfl) (by decide) (by decide) (XRow.opens_string Try.underlying9) (XRow.opensF_cons (k := 1) rfl (by kernel_rfl) (by decide) (by decide) (XRow.opens_slice (B := 56) Try.underlying23 (by kernel_rfl) (by kernel_rfl) opens51) (XRow.opensF_cons (k := 1) rfl (by kernel_rfl) (by decide) (by decide) (XRow.opens_int Try.underlying3) (XRow.opensF_cons (k := 1) rfl (by kernel_rfl) (by decide) (by decide) (XRow.opens_bool Try.underlying4) (XRow.opensF_cons (k := 1) rfl (by kernel_rfl) (by decide) (by decide) (XRow.opens_bool Try.underlying4) (XRow.opensF_cons (k := 1) rfl (by kernel_rfl) (by decide) (by decide) (XRow.opens_int Try.underlying3) (XRow.opensF_one rfl (by kernel_rfl) (XRow.opens_slice (B := 24) Try.underlying24 (by kernel_rfl) (by kernel_rfl) opens42))))))))))))
end Go.Proofs.Ythadapbekmmgpaa.X


namespace Go.Proofs.Ythadapbekmmgpaa.Pre
/-- A's block of 2^k numbers begins at this number. -/
def clip (k A : Nat) : Nat := A / 2 ^ k * 2 ^ k
theorem clip_le (k A : Nat) : clip k A ≤ A := Nat.div_mul_le_self A _
/-- The two halves of a number of 128 bits. -/
def W (hi lo : Nat) : Nat := hi * 18446744073709551616 + lo
theorem clip_high (n hi lo : Nat) (hl : lo < 18446744073709551616) : clip (n + 64) (W hi lo) = W (clip n hi) 0 := by
  unfold clip W
  rw [Nat.pow_add, Nat.mul_comm (2 ^ n), ← Nat.div_div_eq_div_mul, show (2 : Nat) ^ 64 = 18446744073709551616 by decide, show (hi * 18446744073709551616 + lo) / 18446744073709551616 = hi by omega, Nat.mul_comm 18446744073709551616, ← Nat.mul_assoc, Nat.add_zero]
theorem clip_low (n hi lo : Nat) (hn : n ≤ 64) : clip n (W hi lo) = W hi (clip n lo) := by
  unfold clip W
  obtain ⟨d, hd⟩ := Nat.le.dest hn
  have e : (18446744073709551616 : Nat) = 2 ^ d * 2 ^ n := by rw [← Nat.pow_add, Nat.add_comm d, hd]
  rw [e, ← Nat.mul_assoc, Nat.add_comm _ lo, Nat.add_mul_div_right _ _ (Nat.two_pow_pos n), Nat.add_mul]
  omega
theorem W_inj {a b c d : Nat} (hb : b < 18446744073709551616) (hd : d < 18446744073709551616) (h : W a b = W c d) : a = c ∧ b = d := by unfold W at h; omega
end Go.Proofs.Ythadapbekmmgpaa.Pre


set_option linter.unusedVariables false
set_option linter.unusedSimpArgs false
namespace Go.Proofs.Ythadapbekmmgpaa.Adr
open Go.RowKit Go.Proofs.YthadapbekmmgpaaW.PrintWords Go.Proofs.YthadapbekmmgpaaW.PrintLast Go.Proofs.YthadapbekmmgpaaW.PrintMore Go.Proofs.Ythadapbekmmgpaa.X Go.Proofs.Ythadapbekmmgpaa.Pre

theorem u64_wrap (n : Int) : IntKind.u64.wrap n = n % 18446744073709551616 := by simp [IntKind.wrap, IntKind.bits, IntKind.signed]
theorem shr_nat (h m : Nat) (hm : m ≤ 64) : shr .u64 (h : Int) (m : Int) = ((h / 2 ^ m : Nat) : Int) := by
  unfold shr
  rw [Int.toNat_natCast, show min m IntKind.u64.bits = m from Nat.min_eq_left hm]
  norm_cast
theorem shl_nat (h m : Nat) (hm : m ≤ 64) : shl .u64 (h : Int) (m : Int) = ((h * 2 ^ m % 18446744073709551616 : Nat) : Int) := by
  unfold shl
  rw [Int.toNat_natCast, show min m IntKind.u64.bits = m from Nat.min_eq_left hm, u64_wrap, Int.natCast_emod, Int.natCast_mul, Int.natCast_pow]
  rfl
theorem or_add (j x y : Nat) (hx : x % 2 ^ j = 0) (hy : y < 2 ^ j) : x ||| y = x + y := by
  have h := Nat.shiftLeft_add_eq_or_of_lt hy (x / 2 ^ j)
  rw [Nat.shiftLeft_eq, Nat.div_mul_cancel (Nat.dvd_of_mod_eq_zero hx)] at h
  exact h.symm
theorem pow64 (m : Nat) (hm : m ≤ 64) : 2 ^ m * 2 ^ (64 - m) = 18446744073709551616 := by
  rw [← Nat.pow_add, show m + (64 - m) = 64 by omega]
/-- The lower half of a number turned down by m. -/
def lowd (m h l : Nat) : Nat := (h % 2 ^ m) * 2 ^ (64 - m) + l / 2 ^ m
theorem low_or (m h l : Nat) (hm : m ≤ 64) (hl : l < 18446744073709551616) : (l / 2 ^ m) ||| (h * 2 ^ (64 - m) % 18446744073709551616) = lowd m h l := by
  have hp := pow64 m hm
  have h1 : h * 2 ^ (64 - m) % 18446744073709551616 = (h % 2 ^ m) * 2 ^ (64 - m) := by
    rw [← hp, Nat.mul_mod_mul_right]
  have h2 : l / 2 ^ m < 2 ^ (64 - m) := by
    rw [Nat.div_lt_iff_lt_mul (Nat.two_pow_pos m), Nat.mul_comm, hp]; exact hl
  rw [h1, Nat.or_comm, or_add (64 - m) _ _ (Nat.mul_mod_left _ _) h2]
  rfl
theorem lowd_lt (m h l : Nat) (hm : m ≤ 64) (hl : l < 18446744073709551616) : lowd m h l < 18446744073709551616 := by
  have hp := pow64 m hm
  have h2 : l / 2 ^ m < 2 ^ (64 - m) := by
    rw [Nat.div_lt_iff_lt_mul (Nat.two_pow_pos m), Nat.mul_comm, hp]; exact hl
  have h3 : h % 2 ^ m + 1 ≤ 2 ^ m := Nat.mod_lt _ (Nat.two_pow_pos m)
  have h4 := Nat.mul_le_mul_right (2 ^ (64 - m)) h3
  rw [hp, Nat.add_mul, Nat.one_mul] at h4
  unfold lowd
  omega
theorem down_small {n : Int} (h l : Nat) (hn : n ≤ 0) : addr_Down.f h l n = some ((h : Int), (l : Int)) := by
  unfold addr_Down.f; rw [if_pos hn]
theorem down_mid (m h l : Nat) (h0 : 0 < m) (hm : m < 64) (hh : h < 18446744073709551616) (hl : l < 18446744073709551616) : addr_Down.f h l (m : Int) = some (((h / 2 ^ m : Nat) : Int), ((lowd m h l : Nat) : Int)) := by
  unfold addr_Down.f
  have hw : wrap64 (64 - (m : Int)) = ((64 - m : Nat) : Int) := by unfold wrap64; omega
  have hd : l / 2 ^ m < 18446744073709551616 := Nat.lt_of_le_of_lt (Nat.div_le_self _ _) hl
  rw [if_neg (by omega), if_neg (by omega), if_pos (by omega), hw, if_pos (by omega), shr_nat _ _ (by omega), shr_nat _ _ (by omega), shl_nat _ _ (by omega), u64_or_nat _ _ hd (Nat.mod_lt _ (by decide)), low_or m h l (by omega) hl]
theorem down_high (m h l : Nat) (hm : 64 ≤ m) (hm2 : m ≤ 128) : addr_Down.f h l (m : Int) = some (0, ((h / 2 ^ (m - 64) : Nat) : Int)) := by
  unfold addr_Down.f
  have hw : wrap64 ((m : Int) - 64) = ((m - 64 : Nat) : Int) := by unfold wrap64; omega
  rw [if_neg (by omega), if_pos (by omega), hw, if_pos (by omega), shr_nat _ _ (by omega)]
theorem up_small {n : Int} (h l : Nat) (hn : n ≤ 0) : addr_Up.f h l n = some ((h : Int), (l : Int)) := by
  unfold addr_Up.f; rw [if_pos hn]
theorem up_mid (m h l : Nat) (h0 : 0 < m) (hm : m < 64) (hl : l < 18446744073709551616) : addr_Up.f h l (m : Int) = some ((((h * 2 ^ m % 18446744073709551616) ||| (l / 2 ^ (64 - m)) : Nat) : Int), ((l * 2 ^ m % 18446744073709551616 : Nat) : Int)) := by
  unfold addr_Up.f
  have hw : wrap64 (64 - (m : Int)) = ((64 - m : Nat) : Int) := by unfold wrap64; omega
  have hd : l / 2 ^ (64 - m) < 18446744073709551616 := Nat.lt_of_le_of_lt (Nat.div_le_self _ _) hl
  rw [if_neg (by omega), if_neg (by omega), if_pos (by omega), hw, if_pos (by omega), shr_nat _ _ (by omega), shl_nat _ _ (by omega), shl_nat _ _ (by omega), u64_or_nat _ _ (Nat.mod_lt _ (by decide)) hd]
theorem up_high (m h l : Nat) (hm : 64 ≤ m) (hm2 : m ≤ 128) : addr_Up.f h l (m : Int) = some (((l * 2 ^ (m - 64) % 18446744073709551616 : Nat) : Int), 0) := by
  unfold addr_Up.f
  have hw : wrap64 ((m : Int) - 64) = ((m - 64 : Nat) : Int) := by unfold wrap64; omega
  rw [if_neg (by omega), if_pos (by omega), hw, if_pos (by omega), shl_nat _ _ (by omega)]
/-- What a clipped number's halves are. -/
def ch (m h : Nat) : Nat := if 64 ≤ m then clip (m - 64) h else h
def cl (m l : Nat) : Nat := if 64 ≤ m then 0 else clip m l
theorem cW (m h l : Nat) (hm : m ≤ 128) (hl : l < 18446744073709551616) : W (ch m h) (cl m l) = clip m (W h l) := by
  unfold ch cl
  by_cases h1 : 64 ≤ m
  · rw [if_pos h1, if_pos h1]
    obtain ⟨d, rfl⟩ : ∃ d, m = d + 64 := ⟨m - 64, by omega⟩
    rw [clip_high d h l hl, Nat.add_sub_cancel]
  · rw [if_neg h1, if_neg h1, clip_low m h l (by omega)]
theorem cl_lt (m l : Nat) (hl : l < 18446744073709551616) : cl m l < 18446744073709551616 := by
  unfold cl; split
  · decide
  · exact Nat.lt_of_le_of_lt (clip_le _ _) hl
theorem updown (m h l : Nat) (hm : m ≤ 128) (hh : h < 18446744073709551616) (hl : l < 18446744073709551616) :
    ((addr_Down.f h l (m : Int)).bind fun b => (addr_Up.f b.1 b.2 (m : Int)).bind fun c => some (c.1, c.2)) = some (((ch m h : Nat) : Int), ((cl m l : Nat) : Int)) := by
  unfold ch cl
  by_cases h1 : 64 ≤ m
  · rw [if_pos h1, if_pos h1, down_high m h l h1 hm, Option.bind_some]
    show ((addr_Up.f ((0 : Nat) : Int) _ _).bind _) = _
    rw [up_high m 0 _ h1 hm, Option.bind_some, Nat.mod_eq_of_lt (Nat.lt_of_le_of_lt (Nat.div_mul_le_self _ _) hh)]
    rfl
  · rw [if_neg h1, if_neg h1]
    by_cases h0 : m = 0
    · subst h0
      rw [down_small h l (by decide), Option.bind_some]
      show ((addr_Up.f (h : Int) (l : Int) _).bind _) = _
      rw [up_small h l (by decide), Option.bind_some]
      simp [clip]
    · rw [down_mid m h l (by omega) (by omega) hh hl, Option.bind_some]
      show ((addr_Up.f ((h / 2 ^ m : Nat) : Int) ((lowd m h l : Nat) : Int) _).bind _) = _
      have hp := pow64 m (by omega)
      have h2 : l / 2 ^ m < 2 ^ (64 - m) := by
        rw [Nat.div_lt_iff_lt_mul (Nat.two_pow_pos m), Nat.mul_comm, hp]; exact hl
      have e1 : lowd m h l / 2 ^ (64 - m) = h % 2 ^ m := by
        unfold lowd
        rw [Nat.add_comm, Nat.add_mul_div_right _ _ (Nat.two_pow_pos _), Nat.div_eq_of_lt h2, Nat.zero_add]
      have e2 : lowd m h l * 2 ^ m % 18446744073709551616 = clip m l := by
        unfold lowd clip
        rw [Nat.add_mul, Nat.mul_assoc, Nat.mul_comm (2 ^ (64 - m)), hp, Nat.add_comm, Nat.add_mul_mod_self_right, Nat.mod_eq_of_lt]
        exact Nat.lt_of_le_of_lt (Nat.div_mul_le_self _ _) hl
      have e3 : h / 2 ^ m * 2 ^ m % 18446744073709551616 = h / 2 ^ m * 2 ^ m := Nat.mod_eq_of_lt (Nat.lt_of_le_of_lt (Nat.div_mul_le_self _ _) hh)
      have e4 : h / 2 ^ m * 2 ^ m ||| h % 2 ^ m = h := by
        rw [or_add m _ _ (Nat.mul_mod_left _ _) (Nat.mod_lt _ (Nat.two_pow_pos m)), Nat.mul_comm, Nat.div_add_mod]
      rw [up_mid m _ _ (by omega) (by omega) (lowd_lt m h l (by omega) hl), Option.bind_some, e1, e2, e3, e4]
theorem clip_eq {k : Nat} (hk : 1 ≤ k) (h l : Nat) (hh : h < 18446744073709551616) (hl : l < 18446744073709551616) (n : Int) (h0 : 0 ≤ n) (h1 : n ≤ 128) :
    addr_Clip.f k h l n = some (((ch (128 - n).toNat h : Nat) : Int), ((cl (128 - n).toNat l : Nat) : Int), n, true) := by
  obtain ⟨j, rfl⟩ : ∃ j, k = j + 1 := ⟨k - 1, by omega⟩
  unfold addr_Clip.f
  have hw : wrap64 (128 - n) = (((128 - n).toNat : Nat) : Int) := by unfold wrap64; omega
  rw [if_neg (by omega), addr_Clip.j0, decide_eq_false (by omega), if_neg (by decide), hw]
  have hu := updown (128 - n).toNat h l (by omega) hh hl
  obtain ⟨b, hb, hu⟩ := Option.bind_eq_some_iff.1 hu
  obtain ⟨c, hc, hu⟩ := Option.bind_eq_some_iff.1 hu
  simp only [Option.some.injEq, Prod.mk.injEq] at hu
  rw [hb, Option.bind_some, hc, Option.bind_some, hu.1, hu.2]
theorem clip_bad {k : Nat} (hk : 1 ≤ k) (h l n : Int) (hn : n < 0 ∨ n > 128) : addr_Clip.f k h l n = some (0, 0, 0, false) := by
  obtain ⟨j, rfl⟩ : ∃ j, k = j + 1 := ⟨k - 1, by omega⟩
  unfold addr_Clip.f
  by_cases h0 : n < 0
  · rw [if_pos h0, addr_Clip.j0, if_pos rfl]
  · rw [if_neg h0, addr_Clip.j0, decide_eq_true (by omega), if_pos rfl]
/-- A prefix: so many bits, and nothing behind them. -/
def snd (h l : Nat) (n : Int) : Prop := 0 ≤ n ∧ n ≤ 128 ∧ clip (128 - n).toNat (W h l) = W h l
instance (h l : Nat) (n : Int) : Decidable (snd h l n) := by unfold snd; infer_instance
theorem cheq (m h l : Nat) (hm : m ≤ 128) (hh : h < 18446744073709551616) (hl : l < 18446744073709551616) : (ch m h = h ∧ cl m l = l) ↔ clip m (W h l) = W h l := by
  rw [← cW m h l hm hl]
  constructor
  · rintro ⟨e1, e2⟩; rw [e1, e2]
  · intro e; exact W_inj (cl_lt m l hl) hl e
theorem sound_eq {k : Nat} (hk : 1 ≤ k) (h l : Nat) (hh : h < 18446744073709551616) (hl : l < 18446744073709551616) (n : Int) : addr_Sound.f k h l n = some (decide (snd h l n)) := by
  unfold addr_Sound.f
  by_cases hn : 0 ≤ n ∧ n ≤ 128
  · rw [clip_eq hk h l hh hl n hn.1 hn.2, Option.bind_some, if_pos rfl]
    congr 1
    have hc := cheq (128 - n).toNat h l (by omega) hh hl
    rw [Bool.eq_iff_iff]
    simp only [Bool.and_eq_true, beq_iff_eq, decide_eq_true_eq, Int.natCast_inj]
    unfold snd
    rw [← hc]
    constructor
    · rintro ⟨⟨e1, e2⟩, _⟩; exact ⟨hn.1, hn.2, e1, e2⟩
    · rintro ⟨_, _, e1, e2⟩; exact ⟨⟨e1, e2⟩, trivial⟩
  · rw [clip_bad hk _ _ n (by omega), Option.bind_some, if_neg (by decide), decide_eq_false]
    unfold snd
    omega
end Go.Proofs.Ythadapbekmmgpaa.Adr


set_option linter.unusedVariables false
set_option linter.unusedSimpArgs false
namespace Go.Proofs.Ythadapbekmmgpaa.O6
open Go Go.RowKit Go.Proofs.YthadapbekmmgpaaW.PrintWords Go.Proofs.YthadapbekmmgpaaW.PrintLast Go.Proofs.YthadapbekmmgpaaW.PrintMore Go.Proofs.Ythadapbekmmgpaa.X Go.Proofs.Ythadapbekmmgpaa.Oct Go.Proofs.Ythadapbekmmgpaa.Adr Go.Proofs.Ythadapbekmmgpaa.Pre
theorem emL_append : ∀ a b : List S42, emL (a ++ b) = emL a ++ emL b
  | [], b => rfl
  | x :: a, b => by rw [List.cons_append, emL, emL, emL_append a b]; simp only [List.append_assoc]
def okX (x : S58) : Prop := ((0 ≤ x.f0.f0.f0 ∧ x.f0.f0.f0 < 18446744073709551616) ∧ (0 ≤ x.f0.f0.f1 ∧ x.f0.f0.f1 < 18446744073709551616)) ∧ (0 ≤ x.f1 ∧ x.f1 < 4294967296) ∧ (0 ≤ x.f2 ∧ x.f2 < 4294967296)
theorem okX_wf {x : S58} (h : wf58 x) : okX x := ⟨⟨wf_u64 h.1.1.1, wf_u64 h.1.1.2⟩, wf_u32 h.2.1, wf_u32 h.2.2.1⟩
def sd (a b n : Int) : Bool := decide (snd a.toNat b.toNat n)
theorem sd_eq {k : Nat} (hk : 1 ≤ k) (a b n : Int) (ha : 0 ≤ a ∧ a < 18446744073709551616) (hb : 0 ≤ b ∧ b < 18446744073709551616) : addr_Sound.f k a b n = some (sd a b n) := by
  have := sound_eq hk a.toNat b.toNat (by omega) (by omega) n
  rw [Int.toNat_of_nonneg ha.1, Int.toNat_of_nonneg hb.1] at this
  exact this
theorem sd_bits {a b n : Int} (h : sd a b n = true) : 0 ≤ n ∧ n ≤ 128 := by
  have := of_decide_eq_true h
  exact ⟨this.1, this.2.1⟩
def cdB (c : Int) : Bool := decide (-1 ≤ c ∧ c ≤ 65535)
def inS (kind : Int) (x : S58) : Bool := cdB x.f3 && (sd x.f0.f0.f0 x.f0.f0.f1 x.f0.f1 && (kind == 4 || x.f0.f1 == 128))
def kdS (kind t1 t2 : Int) : Bool := if kind = 3 then t1 == 0 && t2 == 0 else kind == 2 || kind == 4
def sndS (kind t1 t2 : Int) (l : List S58) (code : Int) : Bool := l.all (inS kind) && (kdS kind t1 t2 && (decide (l.length ≤ 8) && cdB code))
theorem inn_eq (k : Nat) (hk : 1 ≤ k) (kind : Int) (x : S58) (hx : okX x) : inn k kind x = some (inS kind x) := by
  unfold inn inS
  rw [isCode_eq, Option.bind_some, show decide (-1 ≤ x.f3 ∧ x.f3 ≤ 65535) = cdB x.f3 from rfl]
  cases cdB x.f3 with
  | false => rfl
  | true => rw [if_pos rfl, sd_eq hk _ _ _ hx.1.1 hx.1.2]; rfl
theorem innAll_eq (k : Nat) (hk : 1 ≤ k) (kind : Int) : ∀ l : List S58, (∀ x ∈ l, okX x) → innAll k kind l = some (l.all (inS kind))
  | [], _ => rfl
  | x :: l, h => by
    rw [innAll, inn_eq k hk kind x (h x List.mem_cons_self), Option.bind_some, List.all_cons]
    cases inS kind x with
    | false => rfl
    | true => rw [if_pos rfl, innAll_eq k hk kind l (fun y hy => h y (List.mem_cons_of_mem _ hy)), Bool.true_and]
theorem tailS_eq (kind t1 t2 : Int) (n : Nat) (code : Int) : tailS kind t1 t2 n code = some (kdS kind t1 t2 && (decide (n ≤ 8) && cdB code)) := by
  unfold tailS kdS
  by_cases h3 : kind = 3
  · rw [if_pos h3, if_pos h3]
    by_cases ht : t1 = 0 ∧ t2 = 0
    · rw [if_pos ht, isCode_eq, Option.bind_some, ht.1, ht.2]
      rfl
    · rw [if_neg ht]
      have : (t1 == 0 && t2 == 0) = false := by
        cases h : (t1 == 0 && t2 == 0)
        · rfl
        · rw [Bool.and_eq_true] at h
          exact absurd ⟨by simpa using h.1, by simpa using h.2⟩ ht
      rw [this]
      rfl
  · rw [if_neg h3, if_neg h3]
    by_cases h24 : kind = 2 ∨ kind = 4
    · rw [if_pos h24, isCode_eq, Option.bind_some]
      rcases h24 with rfl | rfl <;> rfl
    · rw [if_neg h24]
      have : (kind == 2 || kind == 4) = false := by
        cases h : (kind == 2 || kind == 4)
        · rfl
        · rw [Bool.or_eq_true] at h
          exact absurd (h.imp (fun q => by simpa using q) (fun q => by simpa using q)) h24
      rw [this]
      rfl
theorem soundK_eq (k : Nat) (hk : 1 ≤ k) (kind iaid t1 t2 : Int) (l : List S58) (code : Int) (h : ∀ x ∈ l, okX x) : soundK k kind iaid t1 t2 l code = some (sndS kind t1 t2 l code) := by
  unfold soundK sndS
  rw [innAll_eq k hk kind l h, Option.bind_some]
  cases l.all (inS kind) with
  | false => rfl
  | true => rw [if_pos rfl, tailS_eq, Bool.true_and]
theorem stD_len (c : Int) : (stD c).length ≤ 2 := by unfold stD; split; exact Nat.le_refl 2; exact Nat.zero_le 2
def stZ (c : Int) : List S42 := if c = -1 then [] else [⟨13, B (stD c)⟩]
theorem emit_one (code : Int) (h0 : 0 ≤ code ∧ code < 65536) (d : ByteArray) (hd : d.size ≤ 65535) : opt6_Emit.f [⟨code, d⟩] = some (B (emL [⟨code, d⟩]), 0) := by
  have ho : emOk [(⟨code, d⟩ : S42)] = true := by
    unfold emOk
    rw [List.all_cons, List.all_nil, Bool.and_true]
    exact decide_eq_true hd
  rw [emit_eq _ (fun x hx => by obtain rfl := List.mem_singleton.1 hx; exact h0) (by simp), if_pos ho]
theorem cat_B (parts : List ByteArray) : catS parts = B (parts.map L).flatten := by
  have : ∀ ps : List (List UInt8), Lib.join ps ([] : List UInt8) = ps.flatten := by
    intro ps
    induction ps with
    | nil => rfl
    | cons p ps ih =>
      cases ps with
      | nil => rw [Lib.join_one]; simp
      | cons q qs =>
        have h2 : Lib.join (p :: q :: qs) ([] : List UInt8) = p ++ Lib.join (q :: qs) [] := by simp [Lib.join, List.intercalate, List.intersperse]
        rw [h2, ih]; simp
  unfold catS
  rw [this]
  rfl
theorem join_len (parts : List ByteArray) : (Lib.join (parts.map (·.data.toList)) ([] : List UInt8)).length = (parts.map L).flatten.length := by
  have := congrArg ByteArray.size (cat_B parts)
  exact this
theorem option_eq (code : Int) (h0 : 0 ≤ code ∧ code < 65536) (parts : List ByteArray) (hs : (parts.map L).flatten.length ≤ 65535) : opt6_option.f code parts = some (B (emL [⟨code, B (parts.map L).flatten⟩])) := by
  unfold opt6_option.f
  rw [cat_B, emit_one code h0 (B (parts.map L).flatten) (by rw [size_B]; exact hs)]
  rfl
theorem status_eq (c : Int) (k : Nat) (hk : 10 ≤ k) : opt6_status.f k c = some (B (emL (stZ c))) := by
  unfold opt6_status.f stZ
  by_cases h : c = -1
  · rw [if_pos h, if_pos h]
    rfl
  · have hl := stD_len c
    rw [if_neg h, if_neg h, putStatus_eq c k hk, Option.bind_some, if_pos (by rw [size_B]; omega), option_eq 13 (by omega) _ (by simp [L_B]; omega)]
    simp [L_B]
def inD (kind : Int) (x : S58) : List UInt8 :=
  if kind = 4 then (be4 x.f1 ++ be4 x.f2) ++ ([b8 x.f0.f1] ++ ((be8 x.f0.f0.f0 ++ be8 x.f0.f0.f1) ++ emL (stZ x.f3))) else (be8 x.f0.f0.f0 ++ be8 x.f0.f0.f1) ++ ((be4 x.f1 ++ be4 x.f2) ++ emL (stZ x.f3))
def inO (kind : Int) (x : S58) : S42 := ⟨if kind = 4 then 26 else 5, B (inD kind x)⟩
theorem stZ_len (c : Int) : (emL (stZ c)).length ≤ 6 := by
  unfold stZ
  split
  · exact Nat.zero_le _
  · have := stD_len c
    have hr : runOk (L (B (stD c))) = true := decide_eq_true (by rw [L_B]; omega)
    rw [emL, emL, List.append_nil, List.length_append, be2_length]
    unfold runL
    rw [if_pos hr, List.length_append, be2_length, L_B]
    omega
theorem inD_len (kind : Int) (x : S58) : (inD kind x).length ≤ 31 := by
  have := stZ_len x.f3
  unfold inD
  split <;> simp only [List.length_append, be4_length, be8_length, List.length_cons, List.length_nil] <;> omega
theorem nums1 (a : Int) : strOfNums [a % 256] = B [b8 a] := by
  rw [strOfNums_B _ (by intro x hx; obtain rfl := List.mem_singleton.1 hx; omega), List.map_cons, List.map_nil, b8_mod]
theorem putOne_eq (k : Nat) (hk : 20 ≤ k) (kind : Int) (x : S58) (hx : okX x) : putOne k kind x = some (B (emL [inO kind x])) := by
  have hl := inD_len kind x
  have hst := stZ_len x.f3
  unfold putOne
  rw [Put32 (by omega) _ hx.2.1.1 hx.2.1.2, Option.bind_some, Put32 (by omega) _ hx.2.2.1 hx.2.2.2, Option.bind_some, B_append, if_pos (by rw [size_B, List.length_append, be4_length, be4_length]; omega), putAddr (by omega) _ _ hx.1.1 hx.1.2, Option.bind_some, status_eq _ k (by omega), Option.bind_some, nums1]
  unfold inO inD
  by_cases h4 : kind = 4
  · have e : ([B (be4 x.f1 ++ be4 x.f2), B [b8 x.f0.f1], B (be8 x.f0.f0.f0 ++ be8 x.f0.f0.f1), B (emL (stZ x.f3))].map L).flatten = (be4 x.f1 ++ be4 x.f2) ++ ([b8 x.f0.f1] ++ ((be8 x.f0.f0.f0 ++ be8 x.f0.f0.f1) ++ emL (stZ x.f3))) := by simp [L_B]
    have hz : ((be4 x.f1 ++ be4 x.f2) ++ ([b8 x.f0.f1] ++ ((be8 x.f0.f0.f0 ++ be8 x.f0.f0.f1) ++ emL (stZ x.f3)))).length ≤ 31 := by
      simp only [List.length_append, be4_length, be8_length, List.length_cons, List.length_nil]; omega
    rw [if_pos h4, if_pos h4, if_pos h4, join_len, e, if_pos (by omega), option_eq 26 (by omega) _ (by rw [e]; omega), e]
  · have e : ([B (be8 x.f0.f0.f0 ++ be8 x.f0.f0.f1), B (be4 x.f1 ++ be4 x.f2), B (emL (stZ x.f3))].map L).flatten = (be8 x.f0.f0.f0 ++ be8 x.f0.f0.f1) ++ ((be4 x.f1 ++ be4 x.f2) ++ emL (stZ x.f3)) := by simp [L_B]
    have hz : ((be8 x.f0.f0.f0 ++ be8 x.f0.f0.f1) ++ ((be4 x.f1 ++ be4 x.f2) ++ emL (stZ x.f3))).length ≤ 31 := by
      simp only [List.length_append, be4_length, be8_length]; omega
    rw [if_neg h4, if_neg h4, if_neg h4, join_len, e, if_pos (by omega), option_eq 5 (by omega) _ (by rw [e]; omega), e]
theorem putEach_eq (k : Nat) (hk : 20 ≤ k) (kind : Int) : ∀ (l : List S58) (acc : ByteArray), (∀ x ∈ l, okX x) → acc.size + 65539 * l.length ≤ 140737488355328 → putEach k kind l acc = some (acc ++ B (emL (l.map (inO kind))))
  | [], acc, _, _ => by
    rw [putEach]
    refine congrArg some ?_
    apply ext_L
    rw [L_append, L_B]
    simp [emL]
  | x :: l, acc, h, hs => by
    have h1 := emL_len [inO kind x]
    rw [List.length_cons] at hs
    rw [List.length_singleton] at h1
    rw [putEach, putOne_eq k hk kind x (h x List.mem_cons_self), Option.bind_some, if_pos (by rw [size_B]; omega), putEach_eq k hk kind l _ (fun y hy => h y (List.mem_cons_of_mem _ hy)) (by rw [ByteArray.size_append, size_B]; omega)]
    refine congrArg some ?_
    apply ext_L
    rw [L_append, L_append, L_append, L_B, L_B, L_B, List.map_cons, show inO kind x :: l.map (inO kind) = [inO kind x] ++ l.map (inO kind) from rfl, emL_append, List.append_assoc]
def cdO (kind : Int) : Int := if kind = 2 then 3 else if kind = 3 then 4 else 25
def hdP (kind iaid t1 t2 : Int) : List UInt8 := if kind = 3 then be4 iaid else be4 iaid ++ (be4 t1 ++ be4 t2)
def iaZ (kind : Int) (l : List S58) (code : Int) : List S42 := l.map (inO kind) ++ stZ code
def ok4 (n : Int) : Prop := 0 ≤ n ∧ n < 4294967296
theorem codeOf_eq (kind : Int) : opt6_codeOf.f kind = some (cdO kind) := by
  unfold opt6_codeOf.f cdO
  by_cases h2 : kind = 2
  · rw [if_pos h2, if_pos h2]
  · rw [if_neg h2, if_neg h2]
    by_cases h3 : kind = 3
    · rw [if_pos h3, if_pos h3]
    · rw [if_neg h3, if_neg h3]
theorem putTail_eq (k : Nat) (hk : 20 ≤ k) (kind : Int) (l : List S58) (code : Int) (acc : ByteArray) (h : ∀ x ∈ l, okX x) (hl : l.length ≤ 8) (ha : acc.size ≤ 100) : putTail k kind l code acc = some (cdO kind, acc ++ B (emL (iaZ kind l code)), 0) := by
  have h1 := emL_len (l.map (inO kind))
  have h2 := stZ_len code
  rw [List.length_map] at h1
  unfold putTail
  rw [putEach_eq k hk kind l acc h (by omega), Option.bind_some, status_eq _ k (by omega), Option.bind_some, if_pos (by rw [ByteArray.size_append, size_B, size_B]; omega), codeOf_eq, Option.bind_some]
  refine congrArg some (Prod.ext rfl (Prod.ext ?_ rfl))
  show _ ++ _ ++ _ = _
  apply ext_L
  unfold iaZ
  rw [L_append, L_append, L_append, L_B, L_B, L_B, emL_append, List.append_assoc]
theorem putK_eq (k : Nat) (hk : 20 ≤ k) (kind iaid t1 t2 : Int) (l : List S58) (code : Int) (h : ∀ x ∈ l, okX x) (hi : ok4 iaid) (h1 : ok4 t1) (h2 : ok4 t2) :
    putK k kind iaid t1 t2 l code = some (if sndS kind t1 t2 l code = true then (cdO kind, B (hdP kind iaid t1 t2 ++ emL (iaZ kind l code)), 0) else (0, NIL, 130)) := by
  unfold putK
  rw [soundK_eq k (by omega) kind iaid t1 t2 l code h, Option.bind_some]
  cases hs : sndS kind t1 t2 l code with
  | false => rfl
  | true =>
    have hl : l.length ≤ 8 := by
      unfold sndS at hs
      simp only [Bool.and_eq_true, decide_eq_true_eq] at hs
      exact hs.2.2.1
    have e0 : (⟨#[]⟩ : ByteArray) ++ B (be4 iaid) = B (be4 iaid) := by
      apply ext_L
      rw [L_append]
      rfl
    rw [if_pos rfl, if_pos rfl, Put32 (by omega) _ hi.1 hi.2, Option.bind_some, if_pos (by rw [size_B, be4_length]; omega), e0]
    unfold hdP
    by_cases h3 : kind = 3
    · rw [if_pos h3, if_pos h3, putTail_eq k hk kind l code _ h hl (by rw [size_B, be4_length]; omega), B_append]
    · rw [if_neg h3, if_neg h3, Put32 (by omega) _ h1.1 h1.2, Option.bind_some, Put32 (by omega) _ h2.1 h2.2, Option.bind_some, B_append, B_append, if_pos (by rw [size_B, size_B, List.length_append, be4_length, be4_length, be4_length]; omega), putTail_eq k hk kind l code _ h hl (by rw [size_B, List.length_append, List.length_append, be4_length, be4_length, be4_length]; omega), B_append]
theorem put_f (kind iaid t1 t2 : Int) (l : List S58) (code : Int) (h : ∀ x ∈ l, okX x) (hi : ok4 iaid) (h1 : ok4 t1) (h2 : ok4 t2) :
    opt6_PutIA.f kind iaid t1 t2 l code = some (if sndS kind t1 t2 l code = true then (cdO kind, B (hdP kind iaid t1 t2 ++ emL (iaZ kind l code)), 0) else (0, NIL, 130)) := putK_eq 1000 (by decide) kind iaid t1 t2 l code h hi h1 h2
def stL : List S42 → Int → Option Int
  | [], cur => some cur
  | x :: l, cur => if x.f0 = 13 then (if cutB (L x.f1) 0 2 = true then stL l (if cur = -1 then getN (L x.f1) 0 2 else cur) else none) else stL l cur
def okS (x : S42) : Prop := x.f1.size ≤ 4611686018427387904
theorem statS_eq (k : Nat) (hk : 10 ≤ k) : ∀ (zs : List S42) (cur : Int), (∀ x ∈ zs, okS x) → statS k zs cur = some (stL zs cur)
  | [], cur, _ => rfl
  | x :: zs, cur, h => by
    have ih := fun c => statS_eq k hk zs c (fun y hy => h y (List.mem_cons_of_mem _ hy))
    rw [statS, stL]
    by_cases h13 : x.f0 = 13
    · rw [if_pos h13, if_pos h13, getStatus_eq _ (h x List.mem_cons_self) k hk, Option.bind_some]
      by_cases hc : cutB (L x.f1) 0 2 = true
      · rw [if_pos hc, if_pos hc]
        dsimp only
        rw [if_pos rfl, ih]
      · rw [if_neg hc, if_neg hc]
        rfl
    · rw [if_neg h13, if_neg h13, ih]
def ga (h : List UInt8) (p : Int) : Int × Int := (getN (cutL h p 16) 0 8, getN (cutL h p 16) 8 8)
def rdT (l : List UInt8) (size : Nat) (a0 a1 bits p v : Int) : Except Int S58 :=
  if sd a0 a1 bits = true then (if (opts (l.drop size)).2 = 0 then (match stL (opts (l.drop size)).1 (-1) with | some c => .ok ⟨⟨⟨a0, a1⟩, bits⟩, p, v, c⟩ | none => .error 130) else .error (opts (l.drop size)).2) else .error 130
def rdI (kind : Int) (l : List UInt8) : Except Int S58 :=
  if kind = 4 then (if cutB l 0 25 = true then rdT l 25 (ga (cutL l 0 25) 9).1 (ga (cutL l 0 25) 9).2 (((cutL l 0 25).getD 8 0).toNat : Int) (getN (cutL l 0 25) 0 4) (getN (cutL l 0 25) 4 4) else .error 3)
  else (if cutB l 0 24 = true then rdT l 24 (ga (cutL l 0 24) 0).1 (ga (cutL l 0 24) 0).2 128 (getN (cutL l 0 24) 16 4) (getN (cutL l 0 24) 20 4) else .error 3)
theorem okO_S {x : S42} (h : okO x) : okS x := by have := h.1; unfold okS; omega
theorem getN8 (l : List UInt8) (i : Int) : 0 ≤ getN l i 8 ∧ getN l i 8 < 18446744073709551616 := by
  have := getN_range l i 8
  simpa using this
theorem getN4 (l : List UInt8) (i : Int) : 0 ≤ getN l i 4 ∧ getN l i 4 < 4294967296 := by
  have := getN_range l i 4
  simpa using this
theorem readT_eq (k : Nat) (hk : 300 ≤ k) (data : ByteArray) (hd : data.size ≤ 4611686018427387904) (size : Nat) (hs : size ≤ data.size) (a0 a1 bits p v : Int) (h0 : 0 ≤ a0 ∧ a0 < 18446744073709551616) (h1 : 0 ≤ a1 ∧ a1 < 18446744073709551616) :
    readT k data size a0 a1 bits p v = some (rdT (L data) size a0 a1 bits p v) := by
  unfold readT rdT
  rw [sd_eq (by omega) a0 a1 bits h0 h1, Option.bind_some]
  cases sd a0 a1 bits with
  | false => rfl
  | true =>
    rw [if_pos rfl, if_pos hs, parse_eq _ (by rw [ByteArray.size_extract]; omega) k hk, Option.bind_some, extract_from, if_pos rfl]
    by_cases he : (opts ((L data).drop size)).2 = 0
    · rw [if_pos he, if_pos he, statS_eq k (by omega) _ _ (fun x hx => okO_S ((opts_ok _).1 x hx)), Option.bind_some]
      cases stL (opts ((L data).drop size)).1 (-1) <;> rfl
    · rw [if_neg he, if_neg he]
theorem readI_eq (k : Nat) (hk : 300 ≤ k) (kind : Int) (data : ByteArray) (hd : data.size ≤ 4611686018427387904) : readI k kind data = some (rdI kind (L data)) := by
  unfold readI rdI
  by_cases h4 : kind = 4
  · rw [if_pos h4, if_pos h4, cut data 0 25 hd (by omega) (by omega), Option.bind_some]
    by_cases hc : cutB (L data) 0 25 = true
    · have hb := cutB_bound hc
      have hl : (cutL (L data) 0 25).length = 25 := by rw [cutL_length, if_pos hc]; rfl
      have hc16 : cutB (cutL (L data) 0 25) 9 16 = true := by simp only [cutB, decide_eq_true_eq, hl]; omega
      have hz : (B (cutL (L data) 0 25)).size ≤ 4611686018427387904 := by rw [size_B, hl]; omega
      have hc1 : 8 < (cutL (L data) 0 25).length := by omega
      dsimp only
      rw [hc, if_pos rfl, if_pos rfl, dif_pos (by rw [size_B, hl]; omega), get32 (by omega) _ 0 hz (by omega), Option.bind_some, get32 (by omega) _ 4 hz (by omega), Option.bind_some, getAddr (by omega) _ 9 hz (by omega), Option.bind_some, L_B, if_pos hc16]
      dsimp only
      have e8 : ∀ hh, (((B (cutL (L data) 0 25))[8]'hh).toNat : Int) = (((cutL (L data) 0 25).getD 8 0).toNat : Int) := fun hh => by
        rw [List.getD_eq_getElem?_getD, List.getElem?_eq_getElem hc1]
        rfl
      rw [e8, w64 (byte_range _), readT_eq k hk data hd 25 (by rw [size_L]; omega) _ _ _ _ _ (getN8 _ _) (getN8 _ _)]
      rfl
    · dsimp only
      rw [if_neg hc, if_neg hc]
  · rw [if_neg h4, if_neg h4, cut data 0 24 hd (by omega) (by omega), Option.bind_some]
    by_cases hc : cutB (L data) 0 24 = true
    · have hb := cutB_bound hc
      have hl : (cutL (L data) 0 24).length = 24 := by rw [cutL_length, if_pos hc]; rfl
      have hc16 : cutB (cutL (L data) 0 24) 0 16 = true := by simp only [cutB, decide_eq_true_eq, hl]; omega
      have hz : (B (cutL (L data) 0 24)).size ≤ 4611686018427387904 := by rw [size_B, hl]; omega
      dsimp only
      rw [hc, if_pos rfl, if_pos rfl, get32 (by omega) _ 16 hz (by omega), Option.bind_some, get32 (by omega) _ 20 hz (by omega), Option.bind_some, getAddr (by omega) _ 0 hz (by omega), Option.bind_some, L_B, if_pos hc16]
      dsimp only
      rw [readT_eq k hk data hd 24 (by rw [size_L]; omega) _ _ _ _ _ (getN8 _ _) (getN8 _ _)]
      rfl
    · dsimp only
      rw [if_neg hc, if_neg hc]
def glL (kind part : Int) : List S42 → List S58 → Int → Except Int (List S58 × Int)
  | [], has, cur => .ok (has, cur)
  | x :: l, has, cur =>
    if x.f0 = 13 then (if cutB (L x.f1) 0 2 = true then glL kind part l has (if cur = -1 then getN (L x.f1) 0 2 else cur) else .error 130)
    else if x.f0 = part then (if 8 ≤ has.length then .error 6 else match rdI kind (L x.f1) with | .ok y => glL kind part l (has ++ [y]) cur | .error e => .error e)
    else glL kind part l has cur
theorem getL_eq (k : Nat) (hk : 300 ≤ k) (kind part : Int) : ∀ (zs : List S42) (has : List S58) (cur : Int), (∀ x ∈ zs, okS x) → getL k kind part zs has cur = some (glL kind part zs has cur)
  | [], has, cur, _ => rfl
  | x :: zs, has, cur, h => by
    have ih := fun hs c => getL_eq k hk kind part zs hs c (fun y hy => h y (List.mem_cons_of_mem _ hy))
    rw [getL, glL]
    by_cases h13 : x.f0 = 13
    · rw [if_pos h13, if_pos h13, getStatus_eq _ (h x List.mem_cons_self) k (by omega), Option.bind_some]
      by_cases hc : cutB (L x.f1) 0 2 = true
      · rw [if_pos hc, if_pos hc]
        dsimp only
        rw [if_pos rfl, ih]
      · rw [if_neg hc, if_neg hc]
        rfl
    · rw [if_neg h13, if_neg h13]
      by_cases hp : x.f0 = part
      · rw [if_pos hp, if_pos hp]
        by_cases h8 : 8 ≤ has.length
        · rw [if_pos h8, if_pos h8]
        · rw [if_neg h8, if_neg h8, readI_eq k hk kind _ (h x List.mem_cons_self), Option.bind_some]
          cases rdI kind (L x.f1) with
          | ok y => exact ih _ _
          | error e => rfl
      · rw [if_neg hp, if_neg hp, ih]
theorem getN2 (l : List UInt8) (i : Int) : 0 ≤ getN l i 2 ∧ getN l i 2 < 65536 := by
  have := getN_range l i 2
  simpa using this
theorem rdT_err {l : List UInt8} {size : Nat} {a0 a1 bits p v e : Int} (h : rdT l size a0 a1 bits p v = .error e) : e ≠ 0 := by
  unfold rdT at h
  by_cases h1 : sd a0 a1 bits = true
  · rw [if_pos h1] at h
    by_cases h2 : (opts (l.drop size)).2 = 0
    · rw [if_pos h2] at h
      cases hs : stL (opts (l.drop size)).1 (-1) with
      | none => rw [hs] at h; injection h with h; omega
      | some c => rw [hs] at h; cases h
    · rw [if_neg h2] at h; injection h with h; omega
  · rw [if_neg h1] at h; injection h with h; omega
theorem rdI_err {kind : Int} {l : List UInt8} {e : Int} (h : rdI kind l = .error e) : e ≠ 0 := by
  unfold rdI at h
  by_cases h4 : kind = 4
  · rw [if_pos h4] at h
    by_cases hc : cutB l 0 25 = true
    · rw [if_pos hc] at h; exact rdT_err h
    · rw [if_neg hc] at h; injection h with h; omega
  · rw [if_neg h4] at h
    by_cases hc : cutB l 0 24 = true
    · rw [if_pos hc] at h; exact rdT_err h
    · rw [if_neg hc] at h; injection h with h; omega
theorem short4 (l : List UInt8) (i : Int) (hi : 4 ≤ i) (h : l.length ≤ 4) : getN l i 4 = 0 := by
  have : cutB l i 4 = false := by
    unfold cutB
    exact decide_eq_false (fun q => by omega)
  unfold getN cutL
  rw [this]
  rfl
def gB (kind : Int) (size : Nat) (part : Int) (l : List UInt8) : Except Int (Int × Int × Int × List S58 × Int) :=
  if cutB l 0 size = true then (if (opts (l.drop size)).2 = 0 then (match glL kind part (opts (l.drop size)).1 [] (-1) with | .ok y => .ok (getN (cutL l 0 size) 0 4, getN (cutL l 0 size) 4 4, getN (cutL l 0 size) 8 4, y.1, y.2) | .error e => .error e) else .error (opts (l.drop size)).2) else .error 3
theorem getB_eq (k : Nat) (hk : 300 ≤ k) (kind : Int) (size : Nat) (hsz : size ≤ 100) (part : Int) (data : ByteArray) (hd : data.size ≤ 4611686018427387904) : getB k kind size part data = some (gB kind size part (L data)) := by
  unfold getB gB
  rw [cut data 0 size hd (by omega) (by omega), Option.bind_some]
  by_cases hc : cutB (L data) 0 size = true
  · have hb := cutB_bound hc
    have hl : (cutL (L data) 0 size).length = size := by rw [cutL_length, if_pos hc]; rfl
    have hz : (B (cutL (L data) 0 size)).size ≤ 4611686018427387904 := by rw [size_B, hl]; omega
    dsimp only
    rw [hc, if_pos rfl, if_pos rfl, get32 (by omega) _ 0 hz (by omega), Option.bind_some, get32 (by omega) _ 4 hz (by omega), Option.bind_some, get32 (by omega) _ 8 hz (by omega), Option.bind_some, L_B, if_pos (by rw [size_L]; omega), parse_eq _ (by rw [ByteArray.size_extract]; omega) k hk, Option.bind_some, extract_from]
    by_cases he : (opts ((L data).drop size)).2 = 0
    · rw [if_pos he, if_pos he, getL_eq k hk kind part _ _ _ (fun x hx => okO_S ((opts_ok _).1 x hx)), Option.bind_some]
      cases glL kind part (opts ((L data).drop size)).1 [] (-1) <;> rfl
    · rw [if_neg he, if_neg he]
  · dsimp only
    rw [if_neg hc, if_neg hc]
def gI (code : Int) (l : List UInt8) : Int × Int × Int × Int × List S58 × Int × Int :=
  if code = 3 then getO 2 (gB 2 12 5 l) else if code = 4 then getO 3 (gB 3 4 5 l) else if code = 25 then getO 4 (gB 4 12 26 l) else (0, 0, 0, 0, [], 0, 130)
theorem get_f (code : Int) (data : ByteArray) (hd : data.size ≤ 4611686018427387904) : opt6_GetIA.f code data = some (gI code (L data)) := by
  unfold opt6_GetIA.f getK gI
  by_cases h3 : code = 3
  · rw [if_pos h3, if_pos h3, getB_eq 1000 (by decide) 2 12 (by decide) 5 data hd, Option.bind_some]
  · rw [if_neg h3, if_neg h3]
    by_cases h4 : code = 4
    · rw [if_pos h4, if_pos h4, getB_eq 1000 (by decide) 3 4 (by decide) 5 data hd, Option.bind_some]
    · rw [if_neg h4, if_neg h4]
      by_cases h25 : code = 25
      · rw [if_pos h25, if_pos h25, getB_eq 1000 (by decide) 4 12 (by decide) 26 data hd, Option.bind_some]
      · rw [if_neg h25, if_neg h25]
end Go.Proofs.Ythadapbekmmgpaa.O6


set_option linter.unusedVariables false
set_option linter.unusedSimpArgs false
namespace Go.Proofs.Ythadapbekmmgpaa.O6
open Go Go.RowKit Go.Proofs.YthadapbekmmgpaaW.PrintWords Go.Proofs.YthadapbekmmgpaaW.PrintLast Go.Proofs.YthadapbekmmgpaaW.PrintMore Go.Proofs.Ythadapbekmmgpaa.X Go.Proofs.Ythadapbekmmgpaa.Oct
/-- One option, or none. -/
def opZ (is : Bool) (code : Int) (data : ByteArray) : List S42 := if is = true then [⟨code, data⟩] else []
theorem w6add_op (is : Bool) (code : Int) (data : ByteArray) (l : List S42) : w6add is code data l = l ++ opZ is code data := by cases is <;> simp [w6add, opZ]
/-- The options that a message's fields tell. -/
def fdZ (m : Ms) : List S42 := opZ (!m.cl.toList.isEmpty) 1 m.cl ++ (opZ (!m.sv.toList.isEmpty) 2 m.sv ++ (opZ (m.code != -1) 13 (B (stD m.code)) ++ (opZ m.rap 14 NIL ++ (opZ m.acc 20 NIL ++ opZ (m.again != 0) 19 (B [b8 m.again])))))
theorem head_fd (m : Ms) : w6head m.cl m.sv m.code (B (stD m.code)) m.rap m.acc m.again = fdZ m := by
  unfold w6head fdZ
  simp only [w6add_op, List.append_assoc, List.nil_append, nums1]
def iaO (a : S51) : S42 := ⟨cdO a.f0, B (hdP a.f0 a.f1 a.f2 a.f3 ++ emL (iaZ a.f0 a.f4 a.f5))⟩
def iaOk (a : S51) : Bool := sndS a.f0 a.f2 a.f3 a.f4 a.f5
def iaF (a : S51) : Prop := (∀ x ∈ a.f4, okX x) ∧ ok4 a.f1 ∧ ok4 a.f2 ∧ ok4 a.f3
theorem w6put_eq : ∀ (l : List S51) (acc : List S42), (∀ a ∈ l, iaF a) → w6put l acc = some (if l.all iaOk = true then (acc ++ l.map iaO, 0) else ([], 130))
  | [], acc, _ => by rw [w6put, List.all_nil, if_pos rfl, List.map_nil, List.append_nil]
  | x :: l, acc, h => by
    have hx := h x List.mem_cons_self
    rw [w6put, put_f x.f0 x.f1 x.f2 x.f3 x.f4 x.f5 hx.1 hx.2.1 hx.2.2.1 hx.2.2.2, Option.bind_some, List.all_cons]
    cases hs : iaOk x with
    | true =>
      rw [if_pos (show sndS x.f0 x.f2 x.f3 x.f4 x.f5 = true from hs), if_pos rfl, w6put_eq l _ (fun a ha => h a (List.mem_cons_of_mem _ ha)), Bool.true_and, List.map_cons]
      by_cases hl : l.all iaOk = true
      · rw [if_pos hl, if_pos hl, List.append_assoc]
        rfl
      · rw [if_neg hl, if_neg hl]
    | false =>
      rw [if_neg (show ¬ sndS x.f0 x.f2 x.f3 x.f4 x.f5 = true from fun e => by rw [show sndS x.f0 x.f2 x.f3 x.f4 x.f5 = iaOk x from rfl, hs] at e; cases e), Bool.false_and, if_neg (by decide), if_neg (by decide)]
def allZ (m : Ms) : List S42 := fdZ m ++ (m.ias.map iaO ++ m.opts)
theorem allZ_len (m : Ms) : (allZ m).length = (fdZ m).length + (m.ias.length + m.opts.length) := by unfold allZ; rw [List.length_append, List.length_append, List.length_map]
theorem options_f (m : Ms) (h : ∀ a ∈ m.ias, iaF a) (hl : m.ias.length + m.opts.length < 5864062014700) : wire6_options.f m.ty m.xid m.cl m.sv m.ias m.code m.rap m.acc m.again m.opts = some (if m.ias.all iaOk = true then (allZ m, 0) else ([], 130)) := by
  unfold wire6_options.f
  rw [if_pos hl, putStatus_eq _ _ (by decide), Option.bind_some, head_fd, w6put_eq _ _ h, Option.bind_some]
  by_cases hs : m.ias.all iaOk = true
  · rw [if_pos hs, if_pos hs, if_pos rfl]
    unfold allZ
    rw [List.append_assoc]
  · rw [if_neg hs, if_neg hs, if_neg (by decide)]
theorem index_go (l : List Int) (x : Int) (hl : l.length ≤ 1000) (d : Nat) : ∀ (k i : Nat), l.length - i = d → i ≤ l.length → d + 1 ≤ k → ∃ r, slices_Index_uint16_uint16.l0 k l x (l.length : Int) (i : Int) = some r ∧ decide (r ≥ 0) = (l.drop i).contains x := by
  induction d with
  | zero =>
    intro k i hd hi hk
    obtain ⟨k, rfl⟩ : ∃ m, k = m + 1 := ⟨k - 1, by omega⟩
    rw [slices_Index_uint16_uint16.l0, if_neg (by omega), List.drop_of_length_le (by omega)]
    exact ⟨_, rfl, rfl⟩
  | succ d ih =>
    intro k i hd hi hk
    obtain ⟨k, rfl⟩ : ∃ m, k = m + 1 := ⟨k - 1, by omega⟩
    have hlt : i < l.length := by omega
    have hr : rd l (i : Int) = l[i] := by simp [rd, List.getD_eq_getElem?_getD, List.getElem?_eq_getElem hlt]
    rw [slices_Index_uint16_uint16.l0, if_pos (by omega), if_pos (by omega), if_pos (by omega), hr, List.drop_eq_getElem_cons hlt, List.contains_cons]
    by_cases hx : x = l[i]
    · rw [if_pos hx]
      refine ⟨_, rfl, ?_⟩
      rw [decide_eq_true (by omega), beq_iff_eq.2 hx]
      rfl
    · rw [if_neg hx, w64 (by omega), (by simpa using hx : (x == l[i]) = false), Bool.false_or]
      exact ih k (i + 1) (by omega) (by omega) (by omega)
def ownB (c : Int) : Bool := [1, 2, 3, 4, 13, 14, 19, 20, 25].contains c
theorem isOwn_eq (k : Nat) (hk : 12 ≤ k) (c : Int) : wire6_isOwn.f k c = some (ownB c) := by
  obtain ⟨r, h1, h2⟩ := index_go [1, 2, 3, 4, 13, 14, 19, 20, 25] c (by decide) 9 k 0 rfl (by decide) (by omega)
  unfold wire6_isOwn.f slices_Contains_uint16_uint16.f slices_Index_uint16_uint16.f
  rw [show slices_Index_uint16_uint16.l0 k [1, 2, 3, 4, 13, 14, 19, 20, 25] c (([1, 2, 3, 4, 13, 14, 19, 20, 25] : List Int).length : Int) 0 = some r from h1, Option.bind_some, Option.bind_some, h2]
  rfl
def opOk (o : S42) : Bool := !ownB o.f0 && decide (o.f1.size ≤ 65535)
def tlS (m : Ms) : Bool := m.ias.all iaOk && decide ((allZ m).length ≤ 128)
def hdS (m : Ms) : Bool := decide (1 ≤ m.ty ∧ m.ty ≤ 11 ∧ m.xid < 16777216 ∧ m.cl.size ≤ 130 ∧ m.sv.size ≤ 130 ∧ m.ias.length ≤ 8 ∧ -1 ≤ m.code ∧ m.code ≤ 65535) && (m.again == 0 || w6again m.again)
/-- Whether it is a message. -/
def sdM (m : Ms) : Bool := hdS m && (m.opts.all opOk && tlS m)
theorem sound_go (m : Ms) (hF : ∀ a ∈ m.ias, iaF a) (ho : m.opts.length ≤ 5864062014650) (hi8 : m.ias.length ≤ 8) (d : Nat) : ∀ (k i : Nat), m.opts.length - i = d → i ≤ m.opts.length → d + 20 ≤ k →
    wire6_Sound.l0 k m.opts (m.opts.length : Int) (i : Int) m.ty m.xid m.cl m.sv m.ias m.code m.rap m.acc m.again m.opts = some ((m.opts.drop i).all opOk && tlS m) := by
  induction d with
  | zero =>
    intro k i hd hi hk
    obtain ⟨k, rfl⟩ : ∃ m, k = m + 1 := ⟨k - 1, by omega⟩
    rw [wire6_Sound.l0, if_neg (by omega), List.drop_of_length_le (by omega), options_f m hF (by omega), Option.bind_some, List.all_nil, Bool.true_and]
    unfold tlS
    cases m.ias.all iaOk with
    | true => rw [if_pos rfl, if_pos rfl, Bool.true_and]; congr 1; exact decide_eq_decide.2 (by show ((allZ m).length : Int) ≤ 128 ↔ _; omega)
    | false => rfl
  | succ d ih =>
    intro k i hd hi hk
    obtain ⟨k, rfl⟩ : ∃ m, k = m + 1 := ⟨k - 1, by omega⟩
    have hlt : i < m.opts.length := by omega
    rw [wire6_Sound.l0, if_pos (by omega), if_pos (by omega), if_pos (by omega), isOwn_eq k (by omega), Option.bind_some, drop_at _ i hlt, List.all_cons]
    unfold opOk
    cases hw : ownB (rd_T42 m.opts (i : Int)).f0 with
    | true => rw [if_pos rfl]; rfl
    | false =>
      rw [if_neg (by decide)]
      by_cases hz : ((rd_T42 m.opts (i : Int)).f1.size : Int) > 65535
      · rw [if_pos hz, decide_eq_false (by omega)]
        rfl
      · rw [if_neg hz, decide_eq_true (by omega), w64 (by omega)]
        exact ih k (i + 1) (by omega) (by omega) (by omega)
theorem j0_bad (m : Ms) (k : Nat) (hk : 1 ≤ k) : wire6_Sound.j0 k true m.ty m.xid m.cl m.sv m.ias m.code m.rap m.acc m.again m.opts = some false := by
  obtain ⟨k, rfl⟩ : ∃ m, k = m + 1 := ⟨k - 1, by omega⟩
  rw [wire6_Sound.j0, if_pos rfl]
theorem sound_eq (m : Ms) (hF : ∀ a ∈ m.ias, iaF a) (ho : m.opts.length ≤ 5864062014650) (k : Nat) (hk : m.opts.length + 30 ≤ k) :
    wire6_Sound.f k m.ty m.xid m.cl m.sv m.ias m.code m.rap m.acc m.again m.opts = some (sdM m) := by
  obtain ⟨k, rfl⟩ : ∃ m, k = m + 3 := ⟨k - 3, by omega⟩
  have hbad : ¬ (1 ≤ m.ty ∧ m.ty ≤ 11 ∧ m.xid < 16777216 ∧ m.cl.size ≤ 130 ∧ m.sv.size ≤ 130 ∧ m.ias.length ≤ 8 ∧ -1 ≤ m.code ∧ m.code ≤ 65535) → some false = some (sdM m) := fun h => by
    unfold sdM hdS
    rw [decide_eq_false h]
    rfl
  unfold wire6_Sound.f
  by_cases h1 : m.ty < 1
  · rw [if_pos h1, j0_bad m _ (by omega)]; exact hbad (by omega)
  rw [if_neg h1]
  by_cases h2 : m.ty > 11
  · rw [if_pos h2, j0_bad m _ (by omega)]; exact hbad (by omega)
  rw [if_neg h2, wire6_Sound.j0]
  by_cases h3 : m.xid ≥ 16777216
  · rw [if_pos (decide_eq_true h3)]; exact hbad (by omega)
  rw [if_neg (by simpa using h3)]
  have hmx : mx (m.cl.size : Int) (m.sv.size : Int) > 130 ↔ ¬ (m.cl.size ≤ 130 ∧ m.sv.size ≤ 130) := by unfold mx; split <;> omega
  by_cases h4 : mx (m.cl.size : Int) (m.sv.size : Int) > 130
  · rw [if_pos h4, wire6_Sound.j1, if_pos rfl]; exact hbad (fun h => hmx.1 h4 ⟨h.2.2.2.1, h.2.2.2.2.1⟩)
  rw [if_neg h4, wire6_Sound.j1]
  have h4' : m.cl.size ≤ 130 ∧ m.sv.size ≤ 130 := Decidable.byContradiction (fun h => h4 (hmx.2 h))
  by_cases h5 : (m.ias.length : Int) > 8
  · rw [if_pos (decide_eq_true h5)]; exact hbad (by omega)
  rw [if_neg (by simpa using h5)]
  by_cases h6 : m.code < -1
  · rw [if_pos h6]; exact hbad (by omega)
  rw [if_neg h6]
  by_cases h7 : m.code > 65535
  · rw [if_pos h7]; exact hbad (by omega)
  rw [if_neg h7]
  have hj : wire6_Sound.j2 (k + 1) m.ty m.xid m.cl m.sv m.ias m.code m.rap m.acc m.again m.opts = some (m.opts.all opOk && tlS m) := by
    rw [wire6_Sound.j2]
    exact sound_go m hF ho (by omega) m.opts.length k 0 (by omega) (by omega) (by omega)
  have hh : hdS m = (m.again == 0 || w6again m.again) := by
    unfold hdS
    rw [decide_eq_true (by omega)]
    exact Bool.true_and _
  unfold sdM
  rw [hj, hh, w6again_f, Option.bind_some]
  by_cases h8 : m.again = 0
  · rw [if_pos h8, beq_iff_eq.2 h8, Bool.true_or, Bool.true_and]
  · rw [if_neg h8, (by simpa using h8 : (m.again == 0) = false), Bool.false_or]
    cases w6again m.again with
    | true => rw [if_pos rfl, Bool.true_and]
    | false => rfl
def msF (m : Ms) : Prop := (∀ a ∈ m.ias, iaF a) ∧ (∀ o ∈ m.opts, okF o) ∧ (0 ≤ m.xid ∧ m.xid < 4294967296) ∧ m.opts.length ≤ 5864062014650
theorem opZ_F {is : Bool} {code : Int} {data : ByteArray} (h : 0 ≤ code ∧ code < 65536) : ∀ x ∈ opZ is code data, okF x := fun x hx => by
  cases is with
  | false => cases hx
  | true => obtain rfl := List.mem_singleton.1 hx; exact h
theorem opZ_ok {is : Bool} {code : Int} {data : ByteArray} (h : is = true → data.size ≤ 65535) : emOk (opZ is code data) = true := by
  cases is with
  | false => rfl
  | true =>
    show (runOk (L data) && true) = true
    rw [Bool.and_true]
    exact decide_eq_true (h rfl)
theorem emOk_app (a b : List S42) : emOk (a ++ b) = (emOk a && emOk b) := by unfold emOk; rw [List.all_append]
theorem fdZ_F (m : Ms) : ∀ x ∈ fdZ m, okF x := fun x hx => by
  unfold fdZ at hx
  simp only [List.mem_append] at hx
  rcases hx with h | h | h | h | h | h <;> exact opZ_F (by decide) x h
theorem fdZ_ok (m : Ms) (h1 : m.cl.size ≤ 65535) (h2 : m.sv.size ≤ 65535) : emOk (fdZ m) = true := by
  unfold fdZ
  have h3 := stD_len m.code
  simp only [emOk_app, Bool.and_eq_true]
  exact ⟨opZ_ok (fun _ => h1), opZ_ok (fun _ => h2), opZ_ok (fun _ => by rw [size_B]; omega), opZ_ok (fun _ => by decide), opZ_ok (fun _ => by decide), opZ_ok (fun _ => Nat.le_trans (Nat.le_refl 1) (by decide))⟩
theorem cdO_F (kind : Int) : 0 ≤ cdO kind ∧ cdO kind < 65536 := by unfold cdO; split; decide; split <;> decide
theorem iaO_F (l : List S51) : ∀ x ∈ l.map iaO, okF x := fun x hx => by
  obtain ⟨a, _, rfl⟩ := List.mem_map.1 hx
  exact cdO_F a.f0
theorem em1 (x : S42) (h : (L x.f1).length ≤ 65535) : (emL [x]).length = 4 + (L x.f1).length := by
  rw [emL, emL, List.append_nil, List.length_append, be2_length]
  unfold runL
  rw [if_pos (show runOk (L x.f1) = true from decide_eq_true h), List.length_append, be2_length]
  omega
theorem emMap_len (kind : Int) : ∀ l : List S58, (emL (l.map (inO kind))).length ≤ 35 * l.length
  | [] => Nat.le_refl _
  | x :: l => by
    have h1 := emMap_len kind l
    have h2 := inD_len kind x
    have h3 := em1 (inO kind x) (by show (inD kind x).length ≤ 65535; omega)
    have h4 : (L (inO kind x).f1).length = (inD kind x).length := rfl
    rw [List.map_cons, show inO kind x :: l.map (inO kind) = [inO kind x] ++ l.map (inO kind) from rfl, emL_append, List.length_append, List.length_cons]
    omega
theorem iaD_len (a : S51) (h : a.f4.length ≤ 8) : (iaO a).f1.size ≤ 298 := by
  have h1 := emMap_len a.f0 a.f4
  have h2 := stZ_len a.f5
  show (hdP a.f0 a.f1 a.f2 a.f3 ++ emL (iaZ a.f0 a.f4 a.f5)).length ≤ 298
  have h3 : (hdP a.f0 a.f1 a.f2 a.f3).length ≤ 12 := by unfold hdP; split <;> simp [be4]
  unfold iaZ
  rw [List.length_append, emL_append, List.length_append]
  omega
theorem iaOk_len {a : S51} (h : iaOk a = true) : a.f4.length ≤ 8 := by
  unfold iaOk sndS at h
  simp only [Bool.and_eq_true, decide_eq_true_eq] at h
  exact h.2.2.1
theorem iaO_ok (l : List S51) (h : l.all iaOk = true) : emOk (l.map iaO) = true := by
  unfold emOk
  rw [List.all_map, List.all_eq_true]
  intro a ha
  have := iaD_len a (iaOk_len (List.all_eq_true.1 h a ha))
  exact decide_eq_true (show (L (iaO a).f1).length ≤ 65535 by rw [← size_L]; omega)
structure SdM (m : Ms) : Prop where
  ty : 1 ≤ m.ty ∧ m.ty ≤ 11
  xid : m.xid < 16777216
  cl : m.cl.size ≤ 130
  sv : m.sv.size ≤ 130
  ias : m.ias.length ≤ 8
  code : -1 ≤ m.code ∧ m.code ≤ 65535
  again : (m.again == 0 || w6again m.again) = true
  opts : m.opts.all opOk = true
  iaOk : m.ias.all iaOk = true
  all : (allZ m).length ≤ 128
theorem sdM_iff (m : Ms) : sdM m = true ↔ SdM m := by
  unfold sdM hdS tlS
  simp only [Bool.and_eq_true, decide_eq_true_eq]
  constructor
  · rintro ⟨⟨⟨h1, h2, h3, h4, h5, h6, h7, h8⟩, h9⟩, h10, h11, h12⟩
    exact ⟨⟨h1, h2⟩, h3, h4, h5, h6, ⟨h7, h8⟩, h9, h10, h11, h12⟩
  · rintro ⟨⟨h1, h2⟩, h3, h4, h5, h6, ⟨h7, h8⟩, h9, h10, h11, h12⟩
    exact ⟨⟨⟨h1, h2, h3, h4, h5, h6, h7, h8⟩, h9⟩, h10, h11, h12⟩
theorem allZ_F {m : Ms} (h : msF m) : ∀ x ∈ allZ m, okF x := fun x hx => by
  unfold allZ at hx
  rcases List.mem_append.1 hx with hx | hx
  · exact fdZ_F m x hx
  · rcases List.mem_append.1 hx with hx | hx
    · exact iaO_F _ x hx
    · exact h.2.1 x hx
theorem allZ_ok {m : Ms} (h : SdM m) : emOk (allZ m) = true := by
  unfold allZ
  rw [emOk_app, emOk_app, fdZ_ok m (by have := h.cl; omega) (by have := h.sv; omega), iaO_ok _ h.iaOk, Bool.true_and, Bool.true_and]
  unfold emOk
  rw [List.all_eq_true]
  intro o ho
  have := List.all_eq_true.1 h.opts o ho
  unfold opOk at this
  rw [Bool.and_eq_true, decide_eq_true_eq] at this
  exact decide_eq_true this.2
/-- What Encode answers. -/
def hd4 (m : Ms) : List UInt8 := be4 (m.ty * 16777216 + m.xid)
def enM (m : Ms) : ByteArray × Int := if sdM m = true then (if 4 + (emL (allZ m)).length ≤ 65507 then (B (hd4 m ++ emL (allZ m)), 0) else (NIL, 6)) else (NIL, 141)
theorem sizes : ∀ zs : List S42, emOk zs = true → ∀ x ∈ zs, 4 + x.f1.size ≤ (emL zs).length
  | [], _, x, hx => by cases hx
  | y :: zs, h, x, hx => by
    have hy := emOk_cons h
    have h1 := em1 y (of_decide_eq_true hy.1)
    rw [show y :: zs = [y] ++ zs from rfl, emL_append, List.length_append]
    rcases List.mem_cons.1 hx with rfl | hx
    · rw [← size_L] at h1; omega
    · have := sizes zs hy.2 x hx; omega
theorem enc_go (m : Ms) (hm : msF m) (hs : SdM m) (d : Nat) : ∀ (k i : Nat), (allZ m).length - i = d → i ≤ (allZ m).length → d + 20 ≤ k → (4 + (emL (allZ m)).length ≤ 65507 → ∀ x ∈ (allZ m).drop i, x.f1.size ≤ 65507) →
    wire6_Encode.l0 k (allZ m) (allZ m) ((allZ m).length : Int) (i : Int) m.ty m.xid m.cl m.sv m.ias m.code m.rap m.acc m.again m.opts = some (if 4 + (emL (allZ m)).length ≤ 65507 then (B (hd4 m ++ emL (allZ m)), 0) else (NIL, 6)) := by
  have hlen := hs.all
  have hok := allZ_ok hs
  have hF := allZ_F hm
  induction d with
  | zero =>
    intro k i hd hi hk hx
    obtain ⟨k, rfl⟩ : ∃ m, k = m + 1 := ⟨k - 1, by omega⟩
    have hb := emL_len (allZ m)
    rw [wire6_Encode.l0, if_neg (by omega), emit_eq _ hF hlen, if_pos hok, Option.bind_some, if_pos rfl]
    dsimp only
    rw [size_B, w64 (by omega)]
    by_cases h : 4 + (emL (allZ m)).length ≤ 65507
    · have ht := hs.ty
      have hx0 := hm.2.2.1
      have hx1 := hs.xid
      have e : Go.bits .or .u32 (((m.ty % 4294967296) * 16777216) % 4294967296) m.xid = m.ty * 16777216 + m.xid := by
        rw [show ((m.ty % 4294967296) * 16777216) % 4294967296 = m.ty * 16777216 by omega, u32_or _ _ (by omega) (by omega) (by omega) (by omega)]
        have e1 : (m.ty * 16777216).toNat = m.ty.toNat <<< 24 := by rw [Nat.shiftLeft_eq]; omega
        rw [e1, ← Nat.shiftLeft_add_eq_or_of_lt (by omega : m.xid.toNat < 2 ^ 24), ← e1]
        omega
      rw [if_neg (by omega), if_pos h, e, Put32 (by omega) _ (by omega) (by omega), Option.bind_some, if_pos (by rw [size_B, be4_length]; omega), B_append]
      rfl
    · rw [if_pos (by omega), if_neg h]
  | succ d ih =>
    intro k i hd hi hk hx
    obtain ⟨k, rfl⟩ : ∃ m, k = m + 1 := ⟨k - 1, by omega⟩
    have hlt : i < (allZ m).length := by omega
    have hdr := drop_at _ i hlt
    have hmem : rd_T42 (allZ m) (i : Int) ∈ allZ m := List.mem_of_mem_drop (hdr ▸ List.mem_cons_self : rd_T42 (allZ m) (i : Int) ∈ (allZ m).drop i)
    have hsz := sizes _ hok _ hmem
    rw [wire6_Encode.l0, if_pos (by omega), if_pos (by omega), if_pos (by omega)]
    by_cases hz : ((rd_T42 (allZ m) (i : Int)).f1.size : Int) > 65507
    · rw [if_pos hz, if_neg (by omega)]
    · rw [if_neg hz, w64 (by omega)]
      exact ih k (i + 1) (by omega) (by omega) (by omega) (fun h x hx' => hx h x (by rw [hdr]; exact List.mem_cons_of_mem _ hx'))
theorem encode_eq (m : Ms) (hm : msF m) (k : Nat) (hk : m.opts.length + 200 ≤ k) :
    wire6_Encode.f k m.ty m.xid m.cl m.sv m.ias m.code m.rap m.acc m.again m.opts = some (enM m) := by
  unfold wire6_Encode.f enM
  rw [sound_eq m hm.1 hm.2.2.2 k (by omega), Option.bind_some]
  by_cases h : sdM m = true
  · have hs := (sdM_iff m).1 h
    have h8 := hs.ias
    have h1 := hm.2.2.2
    have h2 := hs.all
    rw [if_pos h, if_pos h, options_f m hm.1 (by omega), if_pos hs.iaOk, Option.bind_some]
    refine enc_go m hm hs (allZ m).length k 0 (by omega) (by omega) (by omega) (fun h x hx => ?_)
    have := sizes _ (allZ_ok hs) x (by simpa using hx)
    omega
  · rw [if_neg h, if_neg h]
end Go.Proofs.Ythadapbekmmgpaa.O6


set_option linter.unusedVariables false
set_option linter.unusedSimpArgs false
namespace Go.Proofs.Ythadapbekmmgpaa.O6
open Go Go.RowKit Go.Proofs.YthadapbekmmgpaaW.PrintWords Go.Proofs.YthadapbekmmgpaaW.PrintLast Go.Proofs.YthadapbekmmgpaaW.PrintMore Go.Proofs.Ythadapbekmmgpaa.X Go.Proofs.Ythadapbekmmgpaa.Oct Go.Proofs.Ythadapbekmmgpaa.Adr Go.Proofs.Ythadapbekmmgpaa.Pre
theorem stZ_ok (c : Int) : emOk (stZ c) = true := by
  have := stD_len c
  unfold stZ
  split
  · rfl
  · unfold emOk
    rw [List.all_cons, List.all_nil, Bool.and_true]
    exact decide_eq_true (by rw [L_B]; omega)
end Go.Proofs.Ythadapbekmmgpaa.O6


set_option linter.unusedVariables false
set_option linter.unusedSimpArgs false
namespace Go.Proofs.Ythadapbekmmgpaa.O6
open Go Go.RowKit Go.Proofs.YthadapbekmmgpaaW.PrintWords Go.Proofs.YthadapbekmmgpaaW.PrintLast Go.Proofs.YthadapbekmmgpaaW.PrintMore Go.Proofs.Ythadapbekmmgpaa.X Go.Proofs.Ythadapbekmmgpaa.Oct Go.Proofs.Ythadapbekmmgpaa.Adr Go.Proofs.Ythadapbekmmgpaa.Pre
/-- Whole options are read; then it goes on. -/
theorem prs_run : ∀ (zs : List S42) (pre rest : List UInt8) (d : Nat) (acc : List S42), emOk zs = true → (∀ x ∈ zs, okF x) → acc.length + zs.length ≤ 128 →
    prs (pre ++ emL zs ++ rest) (d + zs.length) acc (pre.length : Int) = prs (pre ++ emL zs ++ rest) d (acc ++ zs) ((pre ++ emL zs).length : Int)
  | [], pre, rest, d, acc, _, _, _ => by rw [emL, List.append_nil, List.append_nil]; rfl
  | x :: zs, pre, rest, d, acc, ho, hz, hl => by
    rw [List.length_cons] at hl
    obtain ⟨h1, h2⟩ := emOk_cons ho
    have hx := hz x List.mem_cons_self
    have hr : (L x.f1).length ≤ 65535 := by simpa [runOk] using h1
    have hrun : runL (L x.f1) = be2 (L x.f1).length ++ L x.f1 := by unfold runL; rw [if_pos h1]
    have e1 : pre ++ emL (x :: zs) ++ rest = pre ++ be2 x.f0 ++ ((be2 (L x.f1).length ++ L x.f1) ++ emL zs ++ rest) := by rw [emL, hrun]; simp only [List.append_assoc]
    have e2 : pre ++ emL (x :: zs) ++ rest = (pre ++ be2 x.f0) ++ (be2 (L x.f1).length ++ L x.f1) ++ (emL zs ++ rest) := by rw [emL, hrun]; simp only [List.append_assoc]
    have e3 : pre ++ emL (x :: zs) ++ rest = (pre ++ be2 x.f0 ++ (be2 (L x.f1).length ++ L x.f1)) ++ emL zs ++ rest := by rw [emL, hrun]; simp only [List.append_assoc]
    have e4 : pre ++ emL (x :: zs) = (pre ++ be2 x.f0 ++ (be2 (L x.f1).length ++ L x.f1)) ++ emL zs := by rw [emL, hrun]; simp only [List.append_assoc]
    have hpl : ((pre ++ be2 x.f0).length : Int) = (pre.length : Int) + 2 := by rw [List.length_append, be2_length]; omega
    have hc : cutB (pre ++ emL (x :: zs) ++ rest) (pre.length : Int) 2 = true := by rw [e1]; exact cutB_mid _ _ _ _ rfl
    have hg : getN (pre ++ emL (x :: zs) ++ rest) (pre.length : Int) 2 = x.f0 := by rw [e1, getN_mid pre (be2 x.f0) _ 2 rfl, num_be2 _ hx.1 hx.2]
    obtain ⟨t1, t2, t3⟩ := take_mid (pre ++ be2 x.f0) (L x.f1) (emL zs ++ rest) hr
    rw [← e2, hpl] at t1 t2 t3
    have hpos : (pre.length : Int) < ((pre ++ emL (x :: zs) ++ rest).length : Int) := by rw [e1, List.length_append, List.length_append, be2_length]; omega
    have hpre : ((pre ++ be2 x.f0 ++ (be2 (L x.f1).length ++ L x.f1)).length : Int) = (pre.length : Int) + 2 + 2 + ((L x.f1).length : Int) := by
      rw [List.length_append, List.length_append, List.length_append, be2_length, be2_length]; omega
    rw [List.length_cons, show d + (zs.length + 1) = (d + zs.length) + 1 from rfl, prs, if_pos hpos, if_pos ⟨hc, t1⟩, if_neg (by omega), hg, t2, t3, B_L, ← hpre, e3, e4]
    have ih := prs_run zs (pre ++ be2 x.f0 ++ (be2 (L x.f1).length ++ L x.f1)) rest d (acc ++ [x]) h2 (fun y hy => hz y (List.mem_cons_of_mem _ hy)) (by rw [List.length_append, List.length_singleton]; omega)
    rw [ih, List.append_assoc acc]
    rfl
theorem emOk_append (a b : List S42) : emOk (a ++ b) = (emOk a && emOk b) := by unfold emOk; rw [List.all_append]
/-- What was read is what would be written. -/
theorem drop_cut {l : List UInt8} {i n : Int} (h : cutB l i n = true) : l.drop i.toNat = cutL l i n ++ l.drop (i + n).toNat := by
  have hb := cutB_bound h
  unfold cutL
  rw [if_pos h, show (i + n).toNat = i.toNat + n.toNat from by omega, ← List.drop_drop, List.take_append_drop]
theorem be2_cut {l : List UInt8} {i : Int} (h : cutB l i 2 = true) : be2 (getN l i 2) = cutL l i 2 := by
  have hl : (cutL l i 2).length = 2 := by rw [cutL_length, if_pos h]; rfl
  unfold getN
  match hc : cutL l i 2, hl with
  | [x, y], _ => exact be2_num x y
theorem prs_back (l : List UInt8) (d : Nat) : ∀ (acc : List S42) (i : Int) (r : List S42), 0 ≤ i → i ≤ l.length → (l.length : Int) - i < d → prs l d acc i = (r, 0) → ∃ zs, r = acc ++ zs ∧ emL zs = l.drop i.toNat ∧ emOk zs = true ∧ (∀ x ∈ zs, okF x) := by
  induction d with
  | zero => intro acc i r h0 h1 hd; omega
  | succ d ih =>
    intro acc i r h0 h1 hd h
    rw [prs] at h
    by_cases hlt : i < (l.length : Int)
    · rw [if_pos hlt] at h
      by_cases hc : cutB l i 2 = true ∧ takeOk l (i + 2) = true
      · rw [if_pos hc] at h
        by_cases h128 : 128 ≤ acc.length
        · rw [if_pos h128] at h
          exact absurd (Prod.mk.inj h).2 (by decide)
        · rw [if_neg h128] at h
          have hb := take_bound hc.2
          obtain ⟨zs, rfl, he, ho, hz⟩ := ih _ _ r (by omega) (by omega) (by omega) h
          have ht := hc.2
          unfold takeOk at ht
          rw [Bool.and_eq_true] at ht
          have hsm := takeL_small l (i + 2)
          have hr : runOk (L (B (takeL l (i + 2)))) = true := decide_eq_true (by rw [L_B]; exact hsm)
          have htl : takeL l (i + 2) = cutL l (i + 2 + 2) (getN l (i + 2) 2) := by unfold takeL; rw [if_pos hc.2]
          have htt : takeTo l (i + 2) = i + 2 + 2 + getN l (i + 2) 2 := by unfold takeTo; rw [if_pos hc.2]
          have hlen : ((takeL l (i + 2)).length : Int) = getN l (i + 2) 2 := by
            have hr2 := getN_range l (i + 2) 2
            rw [htl, cutL_length, if_pos ht.2]
            exact Int.toNat_of_nonneg hr2.1
          refine ⟨⟨getN l i 2, B (takeL l (i + 2))⟩ :: zs, by rw [List.append_assoc]; rfl, ?_, ?_, ?_⟩
          · rw [emL, he, be2_cut hc.1]
            show cutL l i 2 ++ runL (L (B (takeL l (i + 2)))) ++ _ = _
            unfold runL
            rw [if_pos hr, L_B, hlen, be2_cut ht.1, htl, htt, drop_cut hc.1, drop_cut ht.1, drop_cut ht.2]
            simp only [List.append_assoc]
          · unfold emOk
            rw [List.all_cons]
            exact Bool.and_eq_true_iff.2 ⟨hr, ho⟩
          · intro x hx
            rcases List.mem_cons.1 hx with rfl | hx
            · have hr2 := getN_range l i 2
              exact ⟨hr2.1, by simpa using hr2.2⟩
            · exact hz x hx
      · rw [if_neg hc] at h
        exact absurd (Prod.mk.inj h).2 (by decide)
    · rw [if_neg hlt] at h
      obtain rfl := (Prod.mk.inj h).1
      exact ⟨[], by rw [List.append_nil], by rw [List.drop_of_length_le (by omega)]; rfl, rfl, fun x hx => by cases hx⟩
theorem opts_back {l : List UInt8} {r : List S42} (h : opts l = (r, 0)) : emL r = l ∧ emOk r = true ∧ (∀ x ∈ r, okF x) ∧ r.length ≤ 128 := by
  have hok := opts_ok l
  obtain ⟨zs, hr, he, ho, hz⟩ := prs_back l (l.length + 1) [] 0 r (by omega) (by omega) (by omega) h
  rw [List.nil_append] at hr
  subst hr
  rw [h] at hok
  exact ⟨he, ho, hz, hok.2⟩
end Go.Proofs.Ythadapbekmmgpaa.O6


set_option linter.unusedVariables false
set_option linter.unusedSimpArgs false
namespace Go.Proofs.Ythadapbekmmgpaa.O6
open Go Go.RowKit Go.Proofs.YthadapbekmmgpaaW.PrintWords Go.Proofs.YthadapbekmmgpaaW.PrintLast Go.Proofs.YthadapbekmmgpaaW.PrintMore Go.Proofs.Ythadapbekmmgpaa.X Go.Proofs.Ythadapbekmmgpaa.Oct Go.Proofs.Ythadapbekmmgpaa.Adr Go.Proofs.Ythadapbekmmgpaa.Pre
theorem stZ_F (c : Int) : ∀ x ∈ stZ c, okF x := fun x hx => by
  unfold stZ at hx
  split at hx
  · cases hx
  · obtain rfl := List.mem_singleton.1 hx
    exact ⟨show (0 : Int) ≤ 13 by decide, show (13 : Int) < 65536 by decide⟩
theorem stZ_one (c : Int) : (stZ c).length ≤ 1 := by unfold stZ; split <;> simp
theorem cut_be2 (c : Int) : cutB (be2 c) 0 2 = true := rfl
theorem stD_in {c : Int} (h : 0 ≤ c ∧ c ≤ 65535) : cutB (L (B (stD c))) 0 2 = true ∧ getN (L (B (stD c))) 0 2 = c := by
  unfold stD
  rw [if_pos h, L_B]
  refine ⟨cut_be2 c, ?_⟩
  have := getN_head (be2 c) [] 2 rfl
  rw [List.append_nil] at this
  rw [this, num_be2 c h.1 (by omega)]
theorem cdB_in {c : Int} (h : cdB c = true) (hn : ¬ c = -1) : 0 ≤ c ∧ c ≤ 65535 := by
  have := of_decide_eq_true h
  omega
theorem stL_stZ {c : Int} (h : cdB c = true) : stL (stZ c) (-1) = some c := by
  unfold stZ
  by_cases hc : c = -1
  · rw [if_pos hc, hc]
    rfl
  · obtain ⟨h1, h2⟩ := stD_in (cdB_in h hc)
    rw [if_neg hc, stL, if_pos rfl, if_pos h1, if_pos rfl, stL, h2]
theorem opts_stZ (c : Int) : opts (emL (stZ c)) = (stZ c, 0) := opts_emit (stZ c) (stZ_ok c) (stZ_F c) (Nat.le_trans (stZ_one c) (by decide))
theorem ga_be8 (a b : Int) (ha : 0 ≤ a ∧ a < 18446744073709551616) (hb : 0 ≤ b ∧ b < 18446744073709551616) : getN (be8 a ++ be8 b) 0 8 = a ∧ getN (be8 a ++ be8 b) 8 8 = b := by
  refine ⟨?_, ?_⟩
  · rw [getN_head (be8 a) (be8 b) 8 rfl, num_be8 a ha.1 ha.2]
  · have := getN_mid (be8 a) (be8 b) [] 8 rfl
    rw [List.append_nil] at this
    exact this.trans (num_be8 b hb.1 hb.2)
theorem rdI_in (kind : Int) (x : S58) (hx : okX x) (hs : inS kind x = true) : rdI kind (inD kind x) = .ok x := by
  unfold inS at hs
  simp only [Bool.and_eq_true, Bool.or_eq_true, beq_iff_eq] at hs
  obtain ⟨hc, hsd, hk⟩ := hs
  obtain ⟨g1, g2⟩ := ga_be8 x.f0.f0.f0 x.f0.f0.f1 hx.1.1 hx.1.2
  have hb := sd_bits hsd
  have fin : ∀ (l : List UInt8) (n : Nat), l.drop n = emL (stZ x.f3) → rdT l n x.f0.f0.f0 x.f0.f0.f1 x.f0.f1 x.f1 x.f2 = .ok x := fun l n hl => by
    unfold rdT
    rw [hl, opts_stZ, if_pos hsd, if_pos rfl, stL_stZ hc]
  unfold rdI
  by_cases h4 : kind = 4
  · obtain ⟨H, hH⟩ : ∃ H, H = (be4 x.f1 ++ be4 x.f2) ++ ([b8 x.f0.f1] ++ (be8 x.f0.f0.f0 ++ be8 x.f0.f0.f1)) := ⟨_, rfl⟩
    have hl : H.length = 25 := by rw [hH]; rfl
    have hD : inD kind x = H ++ emL (stZ x.f3) := by unfold inD; rw [if_pos h4, hH]; simp only [List.append_assoc]
    have c1 : cutB (inD kind x) 0 25 = true := by rw [hD]; exact cutB_head H _ 25 (by rw [hl]; rfl)
    have c2 : cutL (inD kind x) 0 25 = H := by rw [hD]; exact cutL_head H _ 25 (by rw [hl]; rfl)
    have e0 : getN H 0 4 = x.f1 := by
      rw [hH, List.append_assoc, getN_head (be4 x.f1) _ 4 rfl, num_be4 _ hx.2.1.1 hx.2.1.2]
    have e4 : getN H 4 4 = x.f2 := by
      rw [hH]
      exact (getN_mid (be4 x.f1) (be4 x.f2) _ 4 rfl).trans (num_be4 _ hx.2.2.1 hx.2.2.2)
    have e8 : ((H.getD 8 0).toNat : Int) = x.f0.f1 := by
      have : H.getD 8 0 = b8 x.f0.f1 := by rw [hH]; rfl
      rw [this, b8_nat]
      omega
    have e9 : cutL H 9 16 = be8 x.f0.f0.f0 ++ be8 x.f0.f0.f1 := by
      have := cutL_mid ((be4 x.f1 ++ be4 x.f2) ++ [b8 x.f0.f1]) (be8 x.f0.f0.f0 ++ be8 x.f0.f0.f1) [] 16 rfl
      rw [List.append_nil] at this
      rw [hH, ← List.append_assoc (be4 x.f1 ++ be4 x.f2)]
      exact this
    rw [if_pos h4, if_pos c1, c2, e0, e4, e8]
    unfold ga
    rw [e9, g1, g2]
    exact fin _ 25 (by rw [hD]; exact List.drop_left' hl)
  · obtain ⟨H, hH⟩ : ∃ H, H = (be8 x.f0.f0.f0 ++ be8 x.f0.f0.f1) ++ (be4 x.f1 ++ be4 x.f2) := ⟨_, rfl⟩
    have hl : H.length = 24 := by rw [hH]; rfl
    have hD : inD kind x = H ++ emL (stZ x.f3) := by unfold inD; rw [if_neg h4, hH]; simp only [List.append_assoc]
    have c1 : cutB (inD kind x) 0 24 = true := by rw [hD]; exact cutB_head H _ 24 (by rw [hl]; rfl)
    have c2 : cutL (inD kind x) 0 24 = H := by rw [hD]; exact cutL_head H _ 24 (by rw [hl]; rfl)
    have h128 : x.f0.f1 = 128 := hk.resolve_left h4
    have e0 : cutL H 0 16 = be8 x.f0.f0.f0 ++ be8 x.f0.f0.f1 := by
      rw [hH]
      exact cutL_head (be8 x.f0.f0.f0 ++ be8 x.f0.f0.f1) _ 16 rfl
    have e16 : getN H 16 4 = x.f1 := by
      rw [hH, ← List.append_assoc]
      exact (getN_mid (be8 x.f0.f0.f0 ++ be8 x.f0.f0.f1) (be4 x.f1) _ 4 rfl).trans (num_be4 _ hx.2.1.1 hx.2.1.2)
    have e20 : getN H 20 4 = x.f2 := by
      have := getN_mid ((be8 x.f0.f0.f0 ++ be8 x.f0.f0.f1) ++ be4 x.f1) (be4 x.f2) [] 4 rfl
      rw [List.append_nil] at this
      rw [hH, ← List.append_assoc]
      exact this.trans (num_be4 _ hx.2.2.1 hx.2.2.2)
    rw [if_neg h4, if_pos c1, c2, e16, e20]
    unfold ga
    rw [e0, g1, g2]
    have := fin (inD kind x) 24 (by rw [hD]; exact List.drop_left' hl)
    rw [h128] at this
    exact this
def ptO (kind : Int) : Int := if kind = 4 then 26 else 5
theorem inO_f0 (kind : Int) (x : S58) : (inO kind x).f0 = ptO kind := rfl
theorem pt13 (kind : Int) : ¬ ptO kind = 13 := by unfold ptO; split <;> decide
theorem glL_append (kind part : Int) : ∀ (a b : List S42) (has : List S58) (cur : Int), glL kind part (a ++ b) has cur = match glL kind part a has cur with | .ok y => glL kind part b y.1 y.2 | .error e => .error e
  | [], b, has, cur => rfl
  | x :: a, b, has, cur => by
    rw [List.cons_append, glL, glL]
    by_cases h13 : x.f0 = 13
    · rw [if_pos h13, if_pos h13]
      by_cases hc : cutB (L x.f1) 0 2 = true
      · rw [if_pos hc, if_pos hc, glL_append kind part a b]
      · rw [if_neg hc, if_neg hc]
    · rw [if_neg h13, if_neg h13]
      by_cases hp : x.f0 = part
      · rw [if_pos hp, if_pos hp]
        by_cases h8 : 8 ≤ has.length
        · rw [if_pos h8, if_pos h8]
        · rw [if_neg h8, if_neg h8]
          cases rdI kind (L x.f1) with
          | error e => rfl
          | ok y => exact glL_append kind part a b _ _
      · rw [if_neg hp, if_neg hp, glL_append kind part a b]
theorem glL_map (kind : Int) (cur : Int) : ∀ (l has : List S58), (∀ x ∈ l, okX x ∧ inS kind x = true) → has.length + l.length ≤ 8 → glL kind (ptO kind) (l.map (inO kind)) has cur = .ok (has ++ l, cur)
  | [], has, _, _ => by rw [List.map_nil, glL, List.append_nil]
  | x :: l, has, h, hl => by
    rw [List.length_cons] at hl
    have hx := h x List.mem_cons_self
    have hr : rdI kind (L (inO kind x).f1) = .ok x := rdI_in kind x hx.1 hx.2
    rw [List.map_cons, glL, if_neg (by rw [inO_f0]; exact pt13 kind), if_pos (inO_f0 kind x), if_neg (by omega), hr]
    show glL kind (ptO kind) (l.map (inO kind)) (has ++ [x]) cur = _
    rw [glL_map kind cur l (has ++ [x]) (fun y hy => h y (List.mem_cons_of_mem _ hy)) (by rw [List.length_append, List.length_singleton]; omega), List.append_assoc]
    rfl
theorem glL_stZ (kind part : Int) (has : List S58) {c : Int} (h : cdB c = true) : glL kind part (stZ c) has (-1) = .ok (has, c) := by
  unfold stZ
  by_cases hc : c = -1
  · rw [if_pos hc, hc]
    rfl
  · obtain ⟨h1, h2⟩ := stD_in (cdB_in h hc)
    rw [if_neg hc, glL, if_pos rfl, if_pos h1, if_pos rfl, glL, h2]
theorem sndS_in {kind t1 t2 code : Int} {l : List S58} (h : sndS kind t1 t2 l code = true) : (∀ x ∈ l, inS kind x = true) ∧ kdS kind t1 t2 = true ∧ l.length ≤ 8 ∧ cdB code = true := by
  unfold sndS at h
  simp only [Bool.and_eq_true, decide_eq_true_eq, List.all_eq_true] at h
  exact h
theorem inO_ok (kind : Int) (l : List S58) : emOk (l.map (inO kind)) = true ∧ ∀ x ∈ l.map (inO kind), okF x := by
  refine ⟨?_, fun x hx => ?_⟩
  · unfold emOk
    rw [List.all_eq_true]
    intro x hx
    obtain ⟨y, _, rfl⟩ := List.mem_map.1 hx
    have := inD_len kind y
    exact decide_eq_true (by show (L (B (inD kind y))).length ≤ _; rw [L_B]; omega)
  · obtain ⟨y, _, rfl⟩ := List.mem_map.1 hx
    show 0 ≤ ptO kind ∧ ptO kind < 65536
    unfold ptO
    split <;> exact ⟨by decide, by decide⟩
theorem iaZ_ok (kind : Int) (l : List S58) (code : Int) (hl : l.length ≤ 8) : emOk (iaZ kind l code) = true ∧ (∀ x ∈ iaZ kind l code, okF x) ∧ (iaZ kind l code).length ≤ 9 := by
  have h1 := inO_ok kind l
  have h2 := stZ_one code
  refine ⟨?_, fun x hx => ?_, ?_⟩
  · unfold iaZ
    rw [emOk_append, h1.1, stZ_ok]
    rfl
  · exact (List.mem_append.1 hx).elim (h1.2 x) (stZ_F code x)
  · unfold iaZ
    rw [List.length_append, List.length_map]
    omega
theorem glL_iaZ {kind t1 t2 code : Int} {l : List S58} (hs : sndS kind t1 t2 l code = true) (h : ∀ x ∈ l, okX x) : glL kind (ptO kind) (iaZ kind l code) [] (-1) = .ok (l, code) := by
  obtain ⟨h1, _, h3, h4⟩ := sndS_in hs
  unfold iaZ
  rw [glL_append, glL_map kind (-1) l [] (fun x hx => ⟨h x hx, h1 x hx⟩) (by simpa using h3)]
  exact glL_stZ kind (ptO kind) l h4
theorem gB_put (kind : Int) (H E : List UInt8) (size : Nat) (hH : H.length = size) (zs : List S42) (he : opts E = (zs, 0)) (l : List S58) (c : Int) (hg : glL kind (ptO kind) zs [] (-1) = .ok (l, c)) : gB kind size (ptO kind) (H ++ E) = .ok (getN H 0 4, getN H 4 4, getN H 8 4, l, c) := by
  subst hH
  unfold gB
  rw [cutB_head H E _ rfl, if_pos rfl, cutL_head H E _ rfl, List.drop_left' rfl, he, if_pos rfl, hg]
/-- With any rows of options behind the head that are read as the association's. -/
theorem gI_any (kind iaid t1 t2 : Int) (l : List S58) (code : Int) (hs : kdS kind t1 t2 = true) (hi : ok4 iaid) (h1 : ok4 t1) (h2 : ok4 t2) (E : List UInt8) (zs : List S42) (he : opts E = (zs, 0)) (hg : glL kind (ptO kind) zs [] (-1) = .ok (l, code)) :
    gI (cdO kind) (hdP kind iaid t1 t2 ++ E) = (kind, iaid, t1, t2, l, code, 0) := by
  unfold kdS at hs
  unfold gI hdP
  by_cases h3 : kind = 3
  · subst h3
    rw [if_pos rfl, Bool.and_eq_true] at hs
    have ht1 : t1 = 0 := by simpa using hs.1
    have ht2 : t2 = 0 := by simpa using hs.2
    have hp : ptO 3 = 5 := rfl
    have g0 : getN (be4 iaid) 0 4 = iaid := by
      have := getN_head (be4 iaid) [] 4 rfl
      rw [List.append_nil] at this
      rw [this, num_be4 _ hi.1 hi.2]
    have hB := gB_put 3 (be4 iaid) E 4 rfl zs he l code hg
    rw [hp] at hB
    rw [if_pos rfl, if_neg (by decide), if_pos (by decide), hB, g0, short4 (be4 iaid) 4 (by decide) (by rw [be4_length]; omega), short4 (be4 iaid) 8 (by decide) (by rw [be4_length]; omega), ht1, ht2]
    rfl
  · rw [if_neg h3] at hs
    have h24 : kind = 2 ∨ kind = 4 := by simpa using hs
    have g0 : getN (be4 iaid ++ (be4 t1 ++ be4 t2)) 0 4 = iaid := by rw [getN_head (be4 iaid) _ 4 rfl, num_be4 _ hi.1 hi.2]
    have g4 : getN (be4 iaid ++ (be4 t1 ++ be4 t2)) 4 4 = t1 := by
      rw [← List.append_assoc]
      exact (getN_mid (be4 iaid) (be4 t1) (be4 t2) 4 rfl).trans (num_be4 _ h1.1 h1.2)
    have g8 : getN (be4 iaid ++ (be4 t1 ++ be4 t2)) 8 4 = t2 := by
      have := getN_mid (be4 iaid ++ be4 t1) (be4 t2) [] 4 rfl
      rw [List.append_nil] at this
      rw [← List.append_assoc]
      exact this.trans (num_be4 _ h2.1 h2.2)
    have hB := gB_put kind (be4 iaid ++ (be4 t1 ++ be4 t2)) E 12 rfl zs he l code hg
    rw [if_neg h3]
    rcases h24 with rfl | rfl
    · rw [show ptO 2 = 5 from rfl] at hB
      rw [if_pos (by decide), hB, g0, g4, g8]
      rfl
    · rw [show ptO 4 = 26 from rfl] at hB
      rw [if_neg (by decide), if_neg (by decide), if_pos (by decide), hB, g0, g4, g8]
      rfl
theorem gI_put (kind iaid t1 t2 : Int) (l : List S58) (code : Int) (hs : sndS kind t1 t2 l code = true) (h : ∀ x ∈ l, okX x) (hi : ok4 iaid) (h1 : ok4 t1) (h2 : ok4 t2) : gI (cdO kind) (hdP kind iaid t1 t2 ++ emL (iaZ kind l code)) = (kind, iaid, t1, t2, l, code, 0) := by
  obtain ⟨_, hk, hl, _⟩ := sndS_in hs
  obtain ⟨o1, o2, o3⟩ := iaZ_ok kind l code hl
  exact gI_any kind iaid t1 t2 l code hk hi h1 h2 _ _ (opts_emit _ o1 o2 (by omega)) (glL_iaZ hs h)
end Go.Proofs.Ythadapbekmmgpaa.O6


set_option linter.unusedVariables false
set_option linter.unusedSimpArgs false
namespace Go.Proofs.Ythadapbekmmgpaa.O6
open Go Go.RowKit Go.Proofs.YthadapbekmmgpaaW.PrintWords Go.Proofs.YthadapbekmmgpaaW.PrintLast Go.Proofs.YthadapbekmmgpaaW.PrintMore Go.Proofs.Ythadapbekmmgpaa.X Go.Proofs.Ythadapbekmmgpaa.Oct Go.Proofs.Ythadapbekmmgpaa.Adr Go.Proofs.Ythadapbekmmgpaa.Pre
def stN (c : Int) : Nat := if c = -1 then 0 else 6
theorem stZ_size {c : Int} (h : cdB c = true) : (emL (stZ c)).length = stN c := by
  unfold stZ stN
  by_cases hc : c = -1
  · rw [if_pos hc, if_pos hc]
    rfl
  · have hi := cdB_in h hc
    have hl : (stD c).length = 2 := by unfold stD; rw [if_pos hi]; rfl
    have hr : runOk (L (B (stD c))) = true := decide_eq_true (by rw [L_B, hl]; decide)
    rw [if_neg hc, if_neg hc, emL, emL, List.append_nil, List.length_append, be2_length]
    unfold runL
    rw [if_pos hr, List.length_append, be2_length, L_B, hl]
theorem em_one {x : S42} (h : runOk (L x.f1) = true) : (emL [x]).length = 4 + (L x.f1).length := by
  rw [emL, emL, List.append_nil, List.length_append, be2_length]
  unfold runL
  rw [if_pos h, List.length_append, be2_length]
  omega
theorem emL_cons (x : S42) (zs : List S42) : (emL (x :: zs)).length = (emL [x]).length + (emL zs).length := by
  rw [show x :: zs = [x] ++ zs from rfl, emL_append, List.length_append]
theorem getN2_cd (l : List UInt8) : cdB (getN l 0 2) = true ∧ ¬ getN l 0 2 = -1 := by
  have := getN2 l 0
  exact ⟨decide_eq_true ⟨by omega, by omega⟩, by omega⟩
theorem stL_ok : ∀ (zs : List S42) (cur c : Int), emOk zs = true → cdB cur = true → stL zs cur = some c → cdB c = true ∧ stN c ≤ stN cur + (emL zs).length
  | [], cur, c, _, hc, h => by
    rw [stL] at h
    obtain rfl := Option.some.inj h
    exact ⟨hc, Nat.le_add_right _ _⟩
  | x :: zs, cur, c, ho, hc, h => by
    obtain ⟨h1, h2⟩ := emOk_cons ho
    rw [stL] at h
    rw [emL_cons]
    by_cases h13 : x.f0 = 13
    · rw [if_pos h13] at h
      by_cases hcb : cutB (L x.f1) 0 2 = true
      · rw [if_pos hcb] at h
        have hb := cutB_bound hcb
        have he := em_one h1
        obtain ⟨g1, g2⟩ := getN2_cd (L x.f1)
        by_cases hcur : cur = -1
        · rw [if_pos hcur] at h
          have ih := stL_ok zs _ c h2 g1 h
          have : stN (getN (L x.f1) 0 2) = 6 := by unfold stN; rw [if_neg g2]
          exact ⟨ih.1, by have := ih.2; omega⟩
        · rw [if_neg hcur] at h
          have ih := stL_ok zs _ c h2 hc h
          exact ⟨ih.1, by have := ih.2; omega⟩
      · rw [if_neg hcb] at h
        cases h
    · rw [if_neg h13] at h
      have ih := stL_ok zs _ c h2 hc h
      exact ⟨ih.1, by have := ih.2; omega⟩
theorem rdT_ok {l : List UInt8} {size : Nat} {a0 a1 bits p v : Int} {y : S58} (h : rdT l size a0 a1 bits p v = .ok y) : ∃ c, y = ⟨⟨⟨a0, a1⟩, bits⟩, p, v, c⟩ ∧ sd a0 a1 bits = true ∧ cdB c = true ∧ stN c ≤ (l.drop size).length := by
  unfold rdT at h
  by_cases h1 : sd a0 a1 bits = true
  · rw [if_pos h1] at h
    by_cases h2 : (opts (l.drop size)).2 = 0
    · rw [if_pos h2] at h
      have hb := opts_back (l := l.drop size) (r := (opts (l.drop size)).1) (Prod.ext rfl h2)
      cases hs : stL (opts (l.drop size)).1 (-1) with
      | none => rw [hs] at h; cases h
      | some c =>
        rw [hs] at h
        injection h with h
        have := stL_ok _ (-1) c hb.2.1 rfl hs
        rw [hb.1] at this
        exact ⟨c, h.symm, h1, this.1, by have h0 : stN (-1) = 0 := rfl; have := this.2; omega⟩
    · rw [if_neg h2] at h; cases h
  · rw [if_neg h1] at h; cases h
theorem inD_size (kind : Int) (y : S58) (h : cdB y.f3 = true) : (inD kind y).length = (if kind = 4 then 25 else 24) + stN y.f3 := by
  have := stZ_size h
  unfold inD
  by_cases h4 : kind = 4
  · rw [if_pos h4, if_pos h4]
    simp only [List.length_append, be4_length, be8_length, List.length_cons, List.length_nil]
    omega
  · rw [if_neg h4, if_neg h4]
    simp only [List.length_append, be4_length, be8_length]
    omega
theorem rdI_ok {kind : Int} {l : List UInt8} {y : S58} (h : rdI kind l = .ok y) : okX y ∧ inS kind y = true ∧ (inD kind y).length ≤ l.length := by
  unfold rdI at h
  by_cases h4 : kind = 4
  · rw [if_pos h4] at h
    by_cases hc : cutB l 0 25 = true
    · have hb := cutB_bound hc
      rw [if_pos hc] at h
      obtain ⟨c, rfl, h1, h2, h3⟩ := rdT_ok h
      refine ⟨⟨⟨getN8 _ _, getN8 _ _⟩, getN4 _ _, getN4 _ _⟩, ?_, ?_⟩
      · unfold inS
        rw [h2, h1, h4]
        rfl
      · rw [inD_size _ _ h2, if_pos h4]
        rw [List.length_drop] at h3
        show 25 + stN c ≤ _
        omega
    · rw [if_neg hc] at h; cases h
  · rw [if_neg h4] at h
    by_cases hc : cutB l 0 24 = true
    · have hb := cutB_bound hc
      rw [if_pos hc] at h
      obtain ⟨c, rfl, h1, h2, h3⟩ := rdT_ok h
      refine ⟨⟨⟨getN8 _ _, getN8 _ _⟩, getN4 _ _, getN4 _ _⟩, ?_, ?_⟩
      · unfold inS
        rw [h2, h1]
        simp
      · rw [inD_size _ _ h2, if_neg h4]
        rw [List.length_drop] at h3
        show 24 + stN c ≤ _
        omega
    · rw [if_neg hc] at h; cases h
theorem glL_ok (kind part : Int) : ∀ (zs : List S42) (has : List S58) (cur : Int) (y : List S58 × Int), emOk zs = true → (∀ x ∈ has, okX x ∧ inS kind x = true) → has.length ≤ 8 → cdB cur = true → glL kind part zs has cur = .ok y →
    (∀ x ∈ y.1, okX x ∧ inS kind x = true) ∧ y.1.length ≤ 8 ∧ cdB y.2 = true ∧ (emL (y.1.map (inO kind))).length + stN y.2 ≤ (emL (has.map (inO kind))).length + stN cur + (emL zs).length
  | [], has, cur, y, _, hh, hl, hc, h => by
    rw [glL] at h
    injection h with h
    subst h
    exact ⟨hh, hl, hc, Nat.le_add_right _ _⟩
  | x :: zs, has, cur, y, ho, hh, hl, hc, h => by
    obtain ⟨h1, h2⟩ := emOk_cons ho
    have he := em_one h1
    rw [glL] at h
    rw [emL_cons]
    by_cases h13 : x.f0 = 13
    · rw [if_pos h13] at h
      by_cases hcb : cutB (L x.f1) 0 2 = true
      · rw [if_pos hcb] at h
        have hb := cutB_bound hcb
        obtain ⟨g1, g2⟩ := getN2_cd (L x.f1)
        by_cases hcur : cur = -1
        · rw [if_pos hcur] at h
          obtain ⟨q1, q2, q3, q4⟩ := glL_ok kind part zs has _ y h2 hh hl g1 h
          have : stN (getN (L x.f1) 0 2) = 6 := by unfold stN; rw [if_neg g2]
          exact ⟨q1, q2, q3, by omega⟩
        · rw [if_neg hcur] at h
          obtain ⟨q1, q2, q3, q4⟩ := glL_ok kind part zs has _ y h2 hh hl hc h
          exact ⟨q1, q2, q3, by omega⟩
      · rw [if_neg hcb] at h
        cases h
    · rw [if_neg h13] at h
      by_cases hp : x.f0 = part
      · rw [if_pos hp] at h
        by_cases h8 : 8 ≤ has.length
        · rw [if_pos h8] at h; cases h
        · rw [if_neg h8] at h
          cases hr : rdI kind (L x.f1) with
          | error e => rw [hr] at h; cases h
          | ok z =>
            rw [hr] at h
            obtain ⟨r1, r2, r3⟩ := rdI_ok hr
            obtain ⟨q1, q2, q3, q4⟩ := glL_ok kind part zs (has ++ [z]) cur y h2 (fun v hv => by
              rcases List.mem_append.1 hv with hv | hv
              · exact hh v hv
              · obtain rfl := List.mem_singleton.1 hv
                exact ⟨r1, r2⟩) (by rw [List.length_append, List.length_singleton]; omega) hc h
            have hz : (emL [inO kind z]).length = 4 + (inD kind z).length := by
              have hlz := inD_len kind z
              have := em_one (x := inO kind z) (decide_eq_true (by show (L (B (inD kind z))).length ≤ _; rw [L_B]; omega))
              rw [this]
              rfl
            rw [List.map_append, emL_append, List.length_append, List.map_cons, List.map_nil, hz] at q4
            exact ⟨q1, q2, q3, by omega⟩
      · rw [if_neg hp] at h
        obtain ⟨q1, q2, q3, q4⟩ := glL_ok kind part zs has cur y h2 hh hl hc h
        exact ⟨q1, q2, q3, by omega⟩
theorem glL_err (kind part : Int) : ∀ (zs : List S42) (has : List S58) (cur e : Int), glL kind part zs has cur = .error e → e ≠ 0
  | [], has, cur, e, h => by rw [glL] at h; cases h
  | x :: zs, has, cur, e, h => by
    rw [glL] at h
    by_cases h13 : x.f0 = 13
    · rw [if_pos h13] at h
      by_cases hcb : cutB (L x.f1) 0 2 = true
      · rw [if_pos hcb] at h; exact glL_err kind part zs _ _ e h
      · rw [if_neg hcb] at h; injection h with h; omega
    · rw [if_neg h13] at h
      by_cases hp : x.f0 = part
      · rw [if_pos hp] at h
        by_cases h8 : 8 ≤ has.length
        · rw [if_pos h8] at h; injection h with h; omega
        · rw [if_neg h8] at h
          cases hr : rdI kind (L x.f1) with
          | error e' => rw [hr] at h; injection h with h; subst h; exact rdI_err hr
          | ok z => rw [hr] at h; exact glL_err kind part zs _ _ e h
      · rw [if_neg hp] at h; exact glL_err kind part zs _ _ e h
theorem gB_err {kind : Int} {size : Nat} {part : Int} {l : List UInt8} {e : Int} (h : gB kind size part l = .error e) : e ≠ 0 := by
  unfold gB at h
  by_cases hc : cutB l 0 size = true
  · rw [if_pos hc] at h
    by_cases he : (opts (l.drop size)).2 = 0
    · rw [if_pos he] at h
      cases hg : glL kind part (opts (l.drop size)).1 [] (-1) with
      | ok y => rw [hg] at h; cases h
      | error e' => rw [hg] at h; injection h with h; subst h; exact glL_err _ _ _ _ _ _ hg
    · rw [if_neg he] at h; injection h with h; omega
  · rw [if_neg hc] at h; injection h with h; omega
theorem gB_ok {kind : Int} {size : Nat} {l : List UInt8} {y : Int × Int × Int × List S58 × Int} (h : gB kind size (ptO kind) l = .ok y) :
    y.1 = getN (cutL l 0 size) 0 4 ∧ y.2.1 = getN (cutL l 0 size) 4 4 ∧ y.2.2.1 = getN (cutL l 0 size) 8 4 ∧ (cutL l 0 size).length = size ∧ (∀ x ∈ y.2.2.2.1, okX x ∧ inS kind x = true) ∧ y.2.2.2.1.length ≤ 8 ∧ cdB y.2.2.2.2 = true ∧ size + (emL (iaZ kind y.2.2.2.1 y.2.2.2.2)).length ≤ l.length := by
  unfold gB at h
  by_cases hc : cutB l 0 size = true
  · have hb := cutB_bound hc
    rw [if_pos hc] at h
    by_cases he : (opts (l.drop size)).2 = 0
    · rw [if_pos he] at h
      have hbk := opts_back (l := l.drop size) (r := (opts (l.drop size)).1) (Prod.ext rfl he)
      cases hg : glL kind (ptO kind) (opts (l.drop size)).1 [] (-1) with
      | error e => rw [hg] at h; cases h
      | ok z =>
        rw [hg] at h
        injection h with h
        subst h
        obtain ⟨q1, q2, q3, q4⟩ := glL_ok kind (ptO kind) _ [] (-1) z hbk.2.1 (fun x hx => by cases hx) (by simp) rfl hg
        rw [hbk.1, List.length_drop] at q4
        refine ⟨rfl, rfl, rfl, ?_, q1, q2, q3, ?_⟩
        · rw [cutL_length, if_pos hc]
          exact Int.toNat_natCast _
        · show size + (emL (iaZ kind z.1 z.2)).length ≤ l.length
          unfold iaZ
          rw [emL_append, List.length_append, stZ_size q3]
          have h0 : stN (-1) = 0 := rfl
          have h1 : (emL (([] : List S58).map (inO kind))).length = 0 := rfl
          omega
    · rw [if_neg he] at h; cases h
  · rw [if_neg hc] at h; cases h
theorem hdP_len (kind i p q : Int) : (hdP kind i p q).length = if kind = 3 then 4 else 12 := by
  unfold hdP
  by_cases h3 : kind = 3
  · rw [if_pos h3, if_pos h3]; rfl
  · rw [if_neg h3, if_neg h3]; rfl
/-- What an option is read as: nothing, with an error; or what can be written, and is no longer. -/
theorem gI_read (code : Int) (l : List UInt8) : (∃ e, e ≠ 0 ∧ gI code l = (0, 0, 0, 0, [], 0, e)) ∨
    ∃ kind i p q h c, gI code l = (kind, i, p, q, h, c, 0) ∧ sndS kind p q h c = true ∧ (∀ x ∈ h, okX x) ∧ ok4 i ∧ ok4 p ∧ ok4 q ∧ (hdP kind i p q ++ emL (iaZ kind h c)).length ≤ l.length := by
  have key : ∀ (kind : Int) (size : Nat), (kind = 3 ∧ size = 4 ∨ kind = 2 ∧ size = 12 ∨ kind = 4 ∧ size = 12) → (∃ e, e ≠ 0 ∧ getO kind (gB kind size (ptO kind) l) = (0, 0, 0, 0, [], 0, e)) ∨
      ∃ kind' i p q h c, getO kind (gB kind size (ptO kind) l) = (kind', i, p, q, h, c, 0) ∧ sndS kind' p q h c = true ∧ (∀ x ∈ h, okX x) ∧ ok4 i ∧ ok4 p ∧ ok4 q ∧ (hdP kind' i p q ++ emL (iaZ kind' h c)).length ≤ l.length := fun kind size hk => by
    cases hg : gB kind size (ptO kind) l with
    | error e => exact .inl ⟨e, gB_err hg, rfl⟩
    | ok y =>
      obtain ⟨e1, e2, e3, e4, q1, q2, q3, q4⟩ := gB_ok hg
      refine .inr ⟨kind, y.1, y.2.1, y.2.2.1, y.2.2.2.1, y.2.2.2.2, rfl, ?_, fun x hx => (q1 x hx).1, ?_, ?_, ?_, ?_⟩
      · have hkd : kdS kind y.2.1 y.2.2.1 = true := by
          unfold kdS
          rcases hk with ⟨rfl, rfl⟩ | ⟨rfl, rfl⟩ | ⟨rfl, rfl⟩
          · rw [if_pos rfl, e2, e3, short4 _ 4 (by decide) (by omega), short4 _ 8 (by decide) (by omega)]
            rfl
          · rfl
          · rfl
        unfold sndS
        rw [hkd, q3, decide_eq_true q2, List.all_eq_true.2 (fun x hx => (q1 x hx).2)]
        rfl
      · rw [e1]; exact getN4 _ _
      · rw [e2]; exact getN4 _ _
      · rw [e3]; exact getN4 _ _
      · rw [List.length_append, hdP_len]
        rcases hk with ⟨rfl, rfl⟩ | ⟨rfl, rfl⟩ | ⟨rfl, rfl⟩
        · rw [if_pos rfl]; exact q4
        · rw [if_neg (by decide)]; exact q4
        · rw [if_neg (by decide)]; exact q4
  unfold gI
  by_cases h3 : code = 3
  · rw [if_pos h3]; exact key 2 12 (.inr (.inl ⟨rfl, rfl⟩))
  · rw [if_neg h3]
    by_cases h4 : code = 4
    · rw [if_pos h4]; exact key 3 4 (.inl ⟨rfl, rfl⟩)
    · rw [if_neg h4]
      by_cases h25 : code = 25
      · rw [if_pos h25]; exact key 4 12 (.inr (.inr ⟨rfl, rfl⟩))
      · rw [if_neg h25]; exact .inl ⟨130, by decide, rfl⟩
end Go.Proofs.Ythadapbekmmgpaa.O6


set_option linter.unusedVariables false
set_option linter.unusedSimpArgs false
namespace Go.Proofs.Ythadapbekmmgpaa.O6
open Go Go.RowKit Go.Proofs.YthadapbekmmgpaaW.PrintWords Go.Proofs.YthadapbekmmgpaaW.PrintLast Go.Proofs.YthadapbekmmgpaaW.PrintMore Go.Proofs.Ythadapbekmmgpaa.X Go.Proofs.Ythadapbekmmgpaa.Oct
/-- An association out of what GetIA answers. -/
def iaP (p : Int × Int × Int × Int × List S58 × Int × Int) : S51 := ⟨p.1, p.2.1, p.2.2.1, p.2.2.2.1, p.2.2.2.2.1, p.2.2.2.2.2.1⟩
/-- An option read into a message. -/
def rdM (m : Ms) (o : S42) (again : Bool) : Ms × Int :=
  if o.f0 = 1 then ({ m with cl := o.f1 }, w6only (w6size o.f1) again)
  else if o.f0 = 2 then ({ m with sv := o.f1 }, w6only (w6size o.f1) again)
  else if o.f0 = 13 then ({ m with code := (if cutB (L o.f1) 0 2 = true then getN (L o.f1) 0 2 else -1) }, w6only (cutB (L o.f1) 0 2) again)
  else if o.f0 = 14 then ({ m with rap := true }, w6only ((o.f1.size : Int) == 0) again)
  else if o.f0 = 20 then ({ m with acc := true }, w6only ((o.f1.size : Int) == 0) again)
  else if o.f0 = 19 then (if (o.f1.size : Int) = 1 then ({ m with again := bt o.f1 0 }, w6only (w6again (bt o.f1 0)) again) else (m, 130))
  else if o.f0 = 3 ∨ o.f0 = 4 ∨ o.f0 = 25 then (if m.ias.length < 8 then ({ m with ias := m.ias ++ [iaP (gI o.f0 (L o.f1))] }, (gI o.f0 (L o.f1)).2.2.2.2.2.2) else (m, 6))
  else ({ m with opts := m.opts ++ [o] }, 0)
theorem read_eq (m : Ms) (o : S42) (again : Bool) (hs : o.f1.size ≤ 4611686018427387904) (hl : m.opts.length < 1000000) : wire6_read.f m o.f0 o.f1 again = some (rdM m o again) := by
  unfold wire6_read.f rdM
  by_cases h1 : o.f0 = 1
  · rw [if_pos h1, if_pos h1]
  rw [if_neg h1, if_neg h1]
  by_cases h2 : o.f0 = 2
  · rw [if_pos h2, if_pos h2]
  rw [if_neg h2, if_neg h2]
  by_cases h3 : o.f0 = 13
  · rw [if_pos h3, if_pos h3, getStatus_eq _ hs 1000 (by decide), Option.bind_some]
    by_cases hc : cutB (L o.f1) 0 2 = true
    · rw [if_pos hc, if_pos hc, hc]
    · rw [if_neg hc, if_neg hc, Bool.eq_false_iff.2 hc]
  rw [if_neg h3, if_neg h3]
  by_cases h4 : o.f0 = 14
  · rw [if_pos h4, if_pos h4]
  rw [if_neg h4, if_neg h4]
  by_cases h5 : o.f0 = 20
  · rw [if_pos h5, if_pos h5]
  rw [if_neg h5, if_neg h5]
  by_cases h6 : o.f0 = 19
  · rw [if_pos h6, if_pos h6]
    by_cases hz : (o.f1.size : Int) = 1
    · rw [if_pos hz, if_pos hz]
    · rw [if_neg hz, if_neg hz]
  rw [if_neg h6, if_neg h6]
  by_cases h7 : o.f0 = 3 ∨ o.f0 = 4 ∨ o.f0 = 25
  · rw [if_pos h7, if_pos h7]
    by_cases hz : m.ias.length < 8
    · rw [if_pos hz, if_pos hz, get_f _ _ hs, Option.bind_some]
      rfl
    · rw [if_neg hz, if_neg hz]
  rw [if_neg h7, if_neg h7, if_pos hl]
theorem rdM_opts (m : Ms) (o : S42) (again : Bool) : (rdM m o again).1.opts.length ≤ m.opts.length + 1 := by
  unfold rdM
  repeat' split
  all_goals first | (show (m.opts ++ [o]).length ≤ _; rw [List.length_append]; exact Nat.le_refl _) | exact Nat.le_succ _
def runM : List S42 → List Int → Ms → Ms × Int
  | [], _, m => (m, 0)
  | o :: l, seen, m => if (rdM m o (seen.contains o.f0)).2 = 0 then runM l (o.f0 :: seen) (rdM m o (seen.contains o.f0)).1 else (mZ, (rdM m o (seen.contains o.f0)).2)
theorem run_eq : ∀ (l : List S42) (seen : List Int) (m : Ms), (∀ o ∈ l, okO o) → m.opts.length + l.length < 1000000 → w6run l seen m = some (runM l seen m)
  | [], _, _, _, _ => rfl
  | o :: l, seen, m, h, hl => by
    have ho := h o List.mem_cons_self
    rw [List.length_cons] at hl
    have h1 := ho.1
    rw [w6run, if_pos ⟨ho.2.1, ho.2.2, by omega⟩, read_eq m o _ (by omega) (by omega), Option.bind_some, runM]
    have h2 := rdM_opts m o (seen.contains o.f0)
    by_cases hz : (rdM m o (seen.contains o.f0)).2 = 0
    · rw [if_pos hz, if_pos hz, run_eq l _ _ (fun x hx => h x (List.mem_cons_of_mem _ hx)) (by omega)]
    · rw [if_neg hz, if_neg hz]
/-- What Decode answers. -/
def decM (l : List UInt8) : Ms × Int :=
  if 65507 < l.length then (mZ, 6)
  else if cutB l 0 4 = false then (mZ, 3)
  else if getN l 0 4 / 16777216 < 1 ∨ getN l 0 4 / 16777216 > 11 then (mZ, 141)
  else if (opts (l.drop 4)).2 = 0 then runM (opts (l.drop 4)).1 [] (w6new (getN l 0 4)) else (mZ, (opts (l.drop 4)).2)
theorem decode_eq (s : ByteArray) (hs : s.size ≤ 4611686018427387904) (k : Nat) (hk : 300 ≤ k) : wire6_Decode.f k s = some (decM (L s)) := by
  unfold wire6_Decode.f decM
  by_cases h1 : (s.size : Int) > 65507
  · rw [if_pos h1, if_pos (by rw [← size_L]; omega)]
  rw [if_neg h1, if_neg (by rw [← size_L]; omega), get32 (by omega) s 0 hs (by omega), Option.bind_some]
  dsimp only
  cases hc : cutB (L s) 0 4 with
  | false => rfl
  | true =>
    have hb := cutB_bound hc
    have hr := getN4 (L s) 0
    rw [if_neg (show ¬ (true = false) by decide), if_neg (show ¬ (true = false) by decide), if_pos (show 4 ≤ s.size ∧ 0 ≤ getN (L s) 0 4 ∧ getN (L s) 0 4 < 4294967296 from ⟨by rw [size_L]; omega, hr⟩)]
    by_cases h2 : getN (L s) 0 4 / 16777216 < 1 ∨ getN (L s) 0 4 / 16777216 > 11
    · rw [if_pos h2, if_pos h2]
    rw [if_neg h2, if_neg h2, parse_eq _ (by rw [ByteArray.size_extract]; omega) k hk, Option.bind_some, extract_from]
    by_cases h3 : (opts ((L s).drop 4)).2 = 0
    · have ho := opts_ok ((L s).drop 4)
      rw [if_pos h3, if_pos h3, if_pos (by have := ho.2; omega), run_eq _ _ _ ho.1 (by have := ho.2; show 0 + _ < _; omega)]
    · rw [if_neg h3, if_neg h3]
def rvC (a : List S42) (seen : List Int) : List Int := (a.map (·.f0)).reverse ++ seen
theorem runM_app : ∀ (a b : List S42) (seen : List Int) (m : Ms), runM (a ++ b) seen m = if (runM a seen m).2 = 0 then runM b (rvC a seen) (runM a seen m).1 else runM a seen m
  | [], b, seen, m => by rw [List.nil_append, runM, if_pos rfl]; rfl
  | o :: a, b, seen, m => by
    rw [List.cons_append, runM, runM]
    by_cases hz : (rdM m o (seen.contains o.f0)).2 = 0
    · rw [if_pos hz, if_pos hz, runM_app a b]
      unfold rvC
      rw [List.map_cons, List.reverse_cons, List.append_assoc]
      rfl
    · rw [if_neg hz, if_neg hz, if_neg hz]
theorem app_ok {a b : List S42} {seen : List Int} {m m1 : Ms} (h : runM a seen m = (m1, 0)) : runM (a ++ b) seen m = runM b (rvC a seen) m1 := by rw [runM_app, h, if_pos rfl]
def frs (c : Int) (seen : List Int) : Prop := seen.contains c = false
theorem frs_nil (c : Int) : frs c [] := rfl
theorem frs_rv {c : Int} {a : List S42} {seen : List Int} (ha : ∀ x ∈ a, x.f0 ≠ c) (hs : frs c seen) : frs c (rvC a seen) := by
  unfold frs rvC at *
  rw [List.contains_eq_mem, decide_eq_false_iff_not] at *
  rw [List.mem_append, List.mem_reverse, List.mem_map]
  rintro (⟨x, hx, e⟩ | h)
  · exact ha x hx e
  · exact hs h
theorem opZ_ne {is : Bool} {c d : Int} {data : ByteArray} (h : c ≠ d) : ∀ x ∈ opZ is c data, x.f0 ≠ d := fun x hx => by
  cases is with
  | false => cases hx
  | true => obtain rfl := List.mem_singleton.1 hx; exact h
theorem run_one {m : Ms} {o : S42} {seen : List Int} {m1 : Ms} (hs : frs o.f0 seen) (h : rdM m o false = (m1, 0)) : runM [o] seen m = (m1, 0) := by
  rw [runM, show seen.contains o.f0 = false from hs, h, if_pos rfl]
  rfl
theorem only_ok {b : Bool} (h : b = true) : w6only b false = 0 := by rw [h]; rfl
theorem isE_size (s : ByteArray) : (!s.toList.isEmpty) = decide (1 ≤ s.size) := by
  rw [toList_L, size_L]
  cases L s with
  | nil => rfl
  | cons c l => exact (decide_eq_true (by simp)).symm
theorem empty_of {s : ByteArray} (h : (!s.toList.isEmpty) = false) : s = NIL := by
  rw [isE_size, decide_eq_false_iff_not] at h
  apply ext_L
  have : (L s).length = 0 := by rw [← size_L]; omega
  rw [List.eq_nil_of_length_eq_zero this]
  rfl
theorem size_ok {s : ByteArray} (h : (!s.toList.isEmpty) = true) (hs : s.size ≤ 130) : w6size s = true := by
  rw [isE_size, decide_eq_true_eq] at h
  unfold w6size
  rw [decide_eq_true (by omega), decide_eq_true (by omega)]
  rfl
theorem p_cl (m0 : Ms) (s : ByteArray) (hs : s.size ≤ 130) (h0 : m0.cl = NIL) (seen : List Int) (hf : frs 1 seen) : runM (opZ (!s.toList.isEmpty) 1 s) seen m0 = ({ m0 with cl := s }, 0) := by
  cases he : (!s.toList.isEmpty) with
  | false => rw [empty_of he, ← h0]; rfl
  | true => exact run_one hf (by unfold rdM; rw [if_pos rfl, only_ok (size_ok he hs)])
theorem p_sv (m0 : Ms) (s : ByteArray) (hs : s.size ≤ 130) (h0 : m0.sv = NIL) (seen : List Int) (hf : frs 2 seen) : runM (opZ (!s.toList.isEmpty) 2 s) seen m0 = ({ m0 with sv := s }, 0) := by
  cases he : (!s.toList.isEmpty) with
  | false => rw [empty_of he, ← h0]; rfl
  | true => exact run_one hf (by unfold rdM; rw [if_neg (show ¬ (2 : Int) = 1 by decide), if_pos rfl, only_ok (size_ok he hs)])
theorem p_code (m0 : Ms) (c : Int) (hc : -1 ≤ c ∧ c ≤ 65535) (h0 : m0.code = -1) (seen : List Int) (hf : frs 13 seen) : runM (opZ (c != -1) 13 (B (stD c))) seen m0 = ({ m0 with code := c }, 0) := by
  by_cases he : c = -1
  · rw [he, ← h0, show (m0.code != m0.code) = false by simp]; rfl
  · rw [(by simpa using he : (c != -1) = true)]
    obtain ⟨s1, s2⟩ := stD_in (c := c) (by omega)
    refine run_one hf ?_
    unfold rdM
    rw [if_neg (show ¬ (13 : Int) = 1 by decide), if_neg (show ¬ (13 : Int) = 2 by decide), if_pos rfl, s1, if_pos rfl, s2]
    rfl
theorem p_rap (m0 : Ms) (b : Bool) (h0 : m0.rap = false) (seen : List Int) (hf : frs 14 seen) : runM (opZ b 14 NIL) seen m0 = ({ m0 with rap := b }, 0) := by
  cases b with
  | false => show (m0, (0 : Int)) = _; cases m0; simp only at h0; rw [h0]
  | true => exact run_one hf rfl
theorem p_acc (m0 : Ms) (b : Bool) (h0 : m0.acc = false) (seen : List Int) (hf : frs 20 seen) : runM (opZ b 20 NIL) seen m0 = ({ m0 with acc := b }, 0) := by
  cases b with
  | false => show (m0, (0 : Int)) = _; cases m0; simp only at h0; rw [h0]
  | true => exact run_one hf rfl
theorem again_cases {c : Int} (h : (c == 0 || w6again c) = true) : c = 0 ∨ c = 5 ∨ c = 6 ∨ c = 11 := by
  unfold w6again at h
  simp only [Bool.or_eq_true, beq_iff_eq] at h
  omega
theorem p_again (m0 : Ms) (c : Int) (hc : (c == 0 || w6again c) = true) (h0 : m0.again = 0) (seen : List Int) (hf : frs 19 seen) : runM (opZ (c != 0) 19 (B [b8 c])) seen m0 = ({ m0 with again := c }, 0) := by
  rcases again_cases hc with rfl | rfl | rfl | rfl
  · show (m0, (0 : Int)) = _; cases m0; simp only at h0; rw [h0]
  · exact run_one hf rfl
  · exact run_one hf rfl
  · exact run_one hf rfl
theorem cdO_own (kind : Int) : cdO kind = 3 ∨ cdO kind = 4 ∨ cdO kind = 25 := by unfold cdO; split; exact .inl rfl; split; exact .inr (.inl rfl); exact .inr (.inr rfl)
theorem p_ia (m0 : Ms) (a : S51) (ha : iaOk a = true) (hF : iaF a) (h8 : m0.ias.length < 8) (again : Bool) : rdM m0 (iaO a) again = ({ m0 with ias := m0.ias ++ [a] }, 0) := by
  have hg : gI (iaO a).f0 (L (iaO a).f1) = (a.f0, a.f1, a.f2, a.f3, a.f4, a.f5, 0) := gI_put a.f0 a.f1 a.f2 a.f3 a.f4 a.f5 ha hF.1 hF.2.1 hF.2.2.1 hF.2.2.2
  have hc : (iaO a).f0 = 3 ∨ (iaO a).f0 = 4 ∨ (iaO a).f0 = 25 := cdO_own a.f0
  unfold rdM
  rw [if_neg (by omega), if_neg (by omega), if_neg (by omega), if_neg (by omega), if_neg (by omega), if_neg (by omega), if_pos hc, if_pos h8, hg]
  rfl
theorem p_ias : ∀ (l : List S51) (m0 : Ms) (seen : List Int), l.all iaOk = true → (∀ a ∈ l, iaF a) → m0.ias.length + l.length ≤ 8 → runM (l.map iaO) seen m0 = ({ m0 with ias := m0.ias ++ l }, 0)
  | [], m0, seen, _, _, _ => by rw [List.map_nil, runM, List.append_nil]
  | a :: l, m0, seen, h, hF, hl => by
    rw [List.all_cons, Bool.and_eq_true] at h
    rw [List.length_cons] at hl
    rw [List.map_cons, runM, p_ia m0 a h.1 (hF a List.mem_cons_self) (by omega), if_pos rfl, p_ias l _ _ h.2 (fun x hx => hF x (List.mem_cons_of_mem _ hx)) (by show (m0.ias ++ [a]).length + _ ≤ 8; rw [List.length_append, List.length_singleton]; omega)]
    show (({ m0 with ias := (m0.ias ++ [a]) ++ l } : Ms), (0 : Int)) = _
    rw [List.append_assoc]
    rfl
theorem own_ne {c : Int} (h : ownB c = false) : c ≠ 1 ∧ c ≠ 2 ∧ c ≠ 3 ∧ c ≠ 4 ∧ c ≠ 13 ∧ c ≠ 14 ∧ c ≠ 19 ∧ c ≠ 20 ∧ c ≠ 25 := by
  unfold ownB at h
  simp only [List.contains_cons, List.contains_nil, Bool.or_false, Bool.or_eq_false_iff, beq_eq_false_iff_ne] at h
  exact h
theorem opOk_own {o : S42} (h : opOk o = true) : ownB o.f0 = false ∧ o.f1.size ≤ 65535 := by
  unfold opOk at h
  rw [Bool.and_eq_true, decide_eq_true_eq] at h
  exact ⟨by simpa using h.1, h.2⟩
theorem p_op (m0 : Ms) (o : S42) (h : ownB o.f0 = false) (again : Bool) : rdM m0 o again = ({ m0 with opts := m0.opts ++ [o] }, 0) := by
  have := own_ne h
  unfold rdM
  rw [if_neg this.1, if_neg this.2.1, if_neg (by omega), if_neg (by omega), if_neg (by omega), if_neg (by omega), if_neg (by omega)]
theorem p_opts : ∀ (l : List S42) (m0 : Ms) (seen : List Int), l.all opOk = true → runM l seen m0 = ({ m0 with opts := m0.opts ++ l }, 0)
  | [], m0, seen, _ => by rw [runM, List.append_nil]
  | o :: l, m0, seen, h => by
    rw [List.all_cons, Bool.and_eq_true] at h
    rw [runM, p_op m0 o (opOk_own h.1).1, if_pos rfl, p_opts l _ _ h.2]
    show (({ m0 with opts := (m0.opts ++ [o]) ++ l } : Ms), (0 : Int)) = _
    rw [List.append_assoc]
    rfl
/-- What Encode wrote is read as the message. -/
theorem run_all {m : Ms} (hs : SdM m) (hm : msF m) : runM (allZ m) [] ⟨m.ty, m.xid, NIL, NIL, [], -1, false, false, 0, []⟩ = (m, 0) := by
  have hn : ∀ {c d : Int} {is : Bool} {data : ByteArray}, c ≠ d → ∀ x ∈ opZ is c data, x.f0 ≠ d := fun h => opZ_ne h
  unfold allZ fdZ
  simp only [List.append_assoc]
  rw [app_ok (p_cl _ m.cl hs.cl rfl [] (frs_nil 1))]
  rw [app_ok (p_sv _ m.sv hs.sv rfl _ (frs_rv (hn (by decide)) (frs_nil 2)))]
  rw [app_ok (p_code _ m.code hs.code rfl _ (frs_rv (hn (by decide)) (frs_rv (hn (by decide)) (frs_nil 13))))]
  rw [app_ok (p_rap _ m.rap rfl _ (frs_rv (hn (by decide)) (frs_rv (hn (by decide)) (frs_rv (hn (by decide)) (frs_nil 14)))))]
  rw [app_ok (p_acc _ m.acc rfl _ (frs_rv (hn (by decide)) (frs_rv (hn (by decide)) (frs_rv (hn (by decide)) (frs_rv (hn (by decide)) (frs_nil 20))))))]
  rw [app_ok (p_again _ m.again hs.again rfl _ (frs_rv (hn (by decide)) (frs_rv (hn (by decide)) (frs_rv (hn (by decide)) (frs_rv (hn (by decide)) (frs_rv (hn (by decide)) (frs_nil 19)))))))]
  rw [app_ok (p_ias m.ias _ _ hs.iaOk hm.1 (by show 0 + _ ≤ 8; have := hs.ias; omega)), p_opts m.opts _ _ hs.opts]
  rfl
theorem new_eq {m : Ms} (hs : SdM m) (hm : msF m) : w6new (m.ty * 16777216 + m.xid) = ⟨m.ty, m.xid, NIL, NIL, [], -1, false, false, 0, []⟩ := by
  have h1 := hs.ty
  have h2 := hs.xid
  have h3 := hm.2.2.1
  unfold w6new
  have e1 : (m.ty * 16777216 + m.xid) / 16777216 = m.ty := by omega
  have e2 : Go.bits .and .u32 (m.ty * 16777216 + m.xid) 16777215 = m.xid := by
    rw [u32_and _ _ (by omega) (by omega) (by decide) (by decide), show ((16777215 : Int)).toNat = 2 ^ 24 - 1 from rfl, Nat.and_two_pow_sub_one_eq_mod]
    omega
  rw [e1, e2]
theorem hd4_get {m : Ms} (hs : SdM m) (hm : msF m) (E : List UInt8) : cutB (hd4 m ++ E) 0 4 = true ∧ getN (hd4 m ++ E) 0 4 = m.ty * 16777216 + m.xid ∧ (hd4 m ++ E).drop 4 = E := by
  have h1 := hs.ty
  have h2 := hs.xid
  have h3 := hm.2.2.1
  refine ⟨?_, ?_, ?_⟩
  · unfold cutB hd4
    rw [decide_eq_true_eq, List.length_append, be4_length]
    omega
  · unfold hd4
    rw [getN_head (be4 (m.ty * 16777216 + m.xid)) E 4 rfl, num_be4 _ (by omega) (by omega)]
  · unfold hd4
    rw [List.drop_append_of_le_length (by rw [be4_length]; omega), List.drop_of_length_le (by rw [be4_length]; omega), List.nil_append]
end Go.Proofs.Ythadapbekmmgpaa.O6


set_option linter.unusedVariables false
set_option linter.unusedSimpArgs false
namespace Go.Proofs.Ythadapbekmmgpaa.O6
open Go Go.RowKit Go.Proofs.YthadapbekmmgpaaW.PrintWords Go.Proofs.YthadapbekmmgpaaW.PrintLast Go.Proofs.YthadapbekmmgpaaW.PrintMore Go.Proofs.Ythadapbekmmgpaa.X Go.Proofs.Ythadapbekmmgpaa.Oct
def ez (l : List S42) : Nat := (emL l).length
theorem ez_app (a b : List S42) : ez (a ++ b) = ez a + ez b := by unfold ez; rw [emL_append, List.length_append]
theorem ez_one (x : S42) (h : x.f1.size ≤ 65535) : ez [x] = 4 + x.f1.size := em1 x h
theorem ez_nil : ez [] = 0 := rfl
theorem len_all (m : Ms) : (allZ m).length = (opZ (!m.cl.toList.isEmpty) 1 m.cl).length + ((opZ (!m.sv.toList.isEmpty) 2 m.sv).length + ((opZ (m.code != -1) 13 (B (stD m.code))).length + ((opZ m.rap 14 NIL).length + ((opZ m.acc 20 NIL).length + (opZ (m.again != 0) 19 (B [b8 m.again])).length)))) + (m.ias.length + m.opts.length) := by
  rw [allZ_len]
  unfold fdZ
  simp only [List.length_append]
theorem ez_all (m : Ms) : ez (allZ m) = ez (opZ (!m.cl.toList.isEmpty) 1 m.cl) + (ez (opZ (!m.sv.toList.isEmpty) 2 m.sv) + (ez (opZ (m.code != -1) 13 (B (stD m.code))) + (ez (opZ m.rap 14 NIL) + (ez (opZ m.acc 20 NIL) + ez (opZ (m.again != 0) 19 (B [b8 m.again])))))) + (ez (m.ias.map iaO) + ez m.opts) := by
  unfold allZ fdZ
  simp only [ez_app]
/-- What is known of a message while it is read. -/
structure Gd (n z : Nat) (seen : List Int) (m : Ms) : Prop where
  ty : 1 ≤ m.ty ∧ m.ty ≤ 11
  xid : 0 ≤ m.xid ∧ m.xid < 16777216
  cl : m.cl.size ≤ 130
  sv : m.sv.size ≤ 130
  ias : m.ias.length ≤ 8
  code : -1 ≤ m.code ∧ m.code ≤ 65535
  again : (m.again == 0 || w6again m.again) = true
  opts : m.opts.all opOk = true
  optF : ∀ x ∈ m.opts, okF x
  iaOk : m.ias.all iaOk = true
  iaF : ∀ a ∈ m.ias, iaF a
  f1 : frs 1 seen → m.cl = NIL
  f2 : frs 2 seen → m.sv = NIL
  f13 : frs 13 seen → m.code = -1
  f14 : frs 14 seen → m.rap = false
  f20 : frs 20 seen → m.acc = false
  f19 : frs 19 seen → m.again = 0
  cnt : (allZ m).length = n
  siz : ez (allZ m) ≤ z
theorem frs_cons {c d : Int} {seen : List Int} (h : frs c (d :: seen)) : c ≠ d ∧ frs c seen := by
  unfold frs at h ⊢
  rw [List.contains_cons, Bool.or_eq_false_iff] at h
  exact ⟨by simpa using h.1, h.2⟩
theorem only_inv {b a : Bool} (h : w6only b a = 0) : b = true ∧ a = false := by
  unfold w6only at h
  split at h
  · assumption
  · cases h
theorem opZ_t {c : Int} {d : ByteArray} : opZ true c d = [⟨c, d⟩] := rfl
theorem opZ_f {c : Int} {d : ByteArray} : opZ false c d = [] := rfl
theorem w6size_inv {s : ByteArray} (h : w6size s = true) : 1 ≤ s.size ∧ s.size ≤ 130 := by
  unfold w6size at h
  rw [Bool.and_eq_true, decide_eq_true_eq, decide_eq_true_eq] at h
  omega
theorem nE : (!NIL.toList.isEmpty) = false := by rw [isE_size]; rfl
theorem all_nil (a b : Int) : allZ ⟨a, b, NIL, NIL, [], -1, false, false, 0, []⟩ = [] := by
  unfold allZ fdZ
  simp only [nE]
  rfl
theorem step_gd {n z : Nat} {seen : List Int} {m m' : Ms} {o : S42} (h : Gd n z seen m) (ho : okO o) (hr : rdM m o (seen.contains o.f0) = (m', 0)) : Gd (n + 1) (z + ez [o]) (o.f0 :: seen) m' := by
  have hz := ez_one o ho.1
  have hoF : okF o := ho.2
  obtain ⟨g1, g2, g3, g4, g5, g6, g7, g8, g9, g10, g11, g12, g13, g14, g15, g16, g17, g18, g19⟩ := h
  have la := len_all m
  have ea := ez_all m
  obtain ⟨ty, xid, cl, sv, ias, code, rap, acc, ag, ops⟩ := m
  obtain ⟨c, d⟩ := o
  simp only at *
  unfold rdM at hr
  simp only at hr
  by_cases h1 : c = 1
  · subst h1
    rw [if_pos rfl] at hr
    injection hr with hm he
    obtain ⟨hb, hs⟩ := only_inv he
    have hw := w6size_inv hb
    subst hm
    have hn := g12 hs
    subst hn
    have hE : (!d.toList.isEmpty) = true := by rw [isE_size]; exact decide_eq_true hw.1
    refine ⟨g1, g2, hw.2, g4, g5, g6, g7, g8, g9, g10, g11, fun q => absurd rfl (frs_cons q).1, fun q => g13 (frs_cons q).2, fun q => g14 (frs_cons q).2, fun q => g15 (frs_cons q).2, fun q => g16 (frs_cons q).2, fun q => g17 (frs_cons q).2, ?_, ?_⟩
    · rw [len_all]
      simp only [hE, opZ_t, nE, opZ_f, List.length_singleton, List.length_nil] at la ⊢
      omega
    · rw [ez_all]
      simp only [hE, opZ_t, nE, opZ_f, ez_nil] at ea ⊢
      omega
  rw [if_neg h1] at hr
  by_cases h2 : c = 2
  · subst h2
    rw [if_pos rfl] at hr
    injection hr with hm he
    obtain ⟨hb, hs⟩ := only_inv he
    have hw := w6size_inv hb
    subst hm
    have hn := g13 hs
    subst hn
    have hE : (!d.toList.isEmpty) = true := by rw [isE_size]; exact decide_eq_true hw.1
    refine ⟨g1, g2, g3, hw.2, g5, g6, g7, g8, g9, g10, g11, fun q => g12 (frs_cons q).2, fun q => absurd rfl (frs_cons q).1, fun q => g14 (frs_cons q).2, fun q => g15 (frs_cons q).2, fun q => g16 (frs_cons q).2, fun q => g17 (frs_cons q).2, ?_, ?_⟩
    · rw [len_all]
      simp only [hE, opZ_t, nE, opZ_f, List.length_singleton, List.length_nil] at la ⊢
      omega
    · rw [ez_all]
      simp only [hE, opZ_t, nE, opZ_f, ez_nil] at ea ⊢
      omega
  rw [if_neg h2] at hr
  by_cases h3 : c = 13
  · subst h3
    rw [if_pos rfl] at hr
    injection hr with hm he
    obtain ⟨hb, hs⟩ := only_inv he
    rw [if_pos hb] at hm
    subst hm
    have hn := g14 hs
    subst hn
    have hr2 := getN2 (L d) 0
    have hcb := cutB_bound hb
    have hne : (getN (L d) 0 2 != -1) = true := by have : getN (L d) 0 2 ≠ -1 := by omega
                                                   simpa using this
    have hst : (B (stD (getN (L d) 0 2))).size = 2 := by
      unfold stD
      rw [if_pos (by omega)]
      rfl
    have hzz := ez_one ⟨13, B (stD (getN (L d) 0 2))⟩ (by show (B (stD (getN (L d) 0 2))).size ≤ _; rw [hst]; decide)
    simp only [hst] at hzz
    refine ⟨g1, g2, g3, g4, g5, ⟨by show -1 ≤ getN (L d) 0 2; omega, by show getN (L d) 0 2 ≤ 65535; omega⟩, g7, g8, g9, g10, g11, fun q => g12 (frs_cons q).2, fun q => g13 (frs_cons q).2, fun q => absurd rfl (frs_cons q).1, fun q => g15 (frs_cons q).2, fun q => g16 (frs_cons q).2, fun q => g17 (frs_cons q).2, ?_, ?_⟩
    · rw [len_all]
      simp only [hne, opZ_t, show ((-1 : Int) != -1) = false from rfl, opZ_f, List.length_singleton, List.length_nil] at la ⊢
      omega
    · rw [ez_all]
      simp only [hne, opZ_t, show ((-1 : Int) != -1) = false from rfl, opZ_f, ez_nil] at ea ⊢
      rw [size_L] at hz
      omega
  rw [if_neg h3] at hr
  by_cases h4 : c = 14
  · subst h4
    rw [if_pos rfl] at hr
    injection hr with hm he
    obtain ⟨hb, hs⟩ := only_inv he
    subst hm
    have hn := g15 hs
    subst hn
    have hzz : ez [⟨14, NIL⟩] = 4 := rfl
    refine ⟨g1, g2, g3, g4, g5, g6, g7, g8, g9, g10, g11, fun q => g12 (frs_cons q).2, fun q => g13 (frs_cons q).2, fun q => g14 (frs_cons q).2, fun q => absurd rfl (frs_cons q).1, fun q => g16 (frs_cons q).2, fun q => g17 (frs_cons q).2, ?_, ?_⟩
    · rw [len_all]
      simp only [opZ_t, opZ_f, List.length_singleton, List.length_nil] at la ⊢
      omega
    · rw [ez_all]
      simp only [opZ_t, opZ_f, ez_nil] at ea ⊢
      omega
  rw [if_neg h4] at hr
  by_cases h5 : c = 20
  · subst h5
    rw [if_pos rfl] at hr
    injection hr with hm he
    obtain ⟨hb, hs⟩ := only_inv he
    subst hm
    have hn := g16 hs
    subst hn
    have hzz : ez [⟨20, NIL⟩] = 4 := rfl
    refine ⟨g1, g2, g3, g4, g5, g6, g7, g8, g9, g10, g11, fun q => g12 (frs_cons q).2, fun q => g13 (frs_cons q).2, fun q => g14 (frs_cons q).2, fun q => g15 (frs_cons q).2, fun q => absurd rfl (frs_cons q).1, fun q => g17 (frs_cons q).2, ?_, ?_⟩
    · rw [len_all]
      simp only [opZ_t, opZ_f, List.length_singleton, List.length_nil] at la ⊢
      omega
    · rw [ez_all]
      simp only [opZ_t, opZ_f, ez_nil] at ea ⊢
      omega
  rw [if_neg h5] at hr
  by_cases h6 : c = 19
  · subst h6
    rw [if_pos rfl] at hr
    by_cases hsz : (d.size : Int) = 1
    · rw [if_pos hsz] at hr
      injection hr with hm he
      obtain ⟨hb, hs⟩ := only_inv he
      subst hm
      have hn := g17 hs
      subst hn
      have hag : (bt d 0 == 0 || w6again (bt d 0)) = true := by rw [hb, Bool.or_true]
      have hne : (bt d 0 != 0) = true := by
        rcases again_cases hag with q | q | q | q
        · rw [q] at hb; exact absurd hb (by decide)
        · rw [q]; rfl
        · rw [q]; rfl
        · rw [q]; rfl
      have hzz : ez [⟨19, B [b8 (bt d 0)]⟩] = 5 := ez_one ⟨19, B [b8 (bt d 0)]⟩ (by show 1 ≤ 65535; decide)
      refine ⟨g1, g2, g3, g4, g5, g6, hag, g8, g9, g10, g11, fun q => g12 (frs_cons q).2, fun q => g13 (frs_cons q).2, fun q => g14 (frs_cons q).2, fun q => g15 (frs_cons q).2, fun q => g16 (frs_cons q).2, fun q => absurd rfl (frs_cons q).1, ?_, ?_⟩
      · rw [len_all]
        simp only [hne, opZ_t, show ((0 : Int) != 0) = false from rfl, opZ_f, List.length_singleton, List.length_nil] at la ⊢
        omega
      · rw [ez_all]
        simp only [hne, opZ_t, show ((0 : Int) != 0) = false from rfl, opZ_f, ez_nil] at ea ⊢
        omega
    · rw [if_neg hsz] at hr
      injection hr with hm he
      exact absurd he (by decide)
  rw [if_neg h6] at hr
  by_cases h7 : c = 3 ∨ c = 4 ∨ c = 25
  · rw [if_pos h7] at hr
    by_cases h8 : ias.length < 8
    · rw [if_pos h8] at hr
      injection hr with hm he
      rcases gI_read c (L d) with ⟨e, q1, q2⟩ | ⟨kind, i, p, q, hh, cc, q1, q2, q3, q4, q5, q6, q7⟩
      · rw [q2] at he; exact absurd he q1
      · rw [q1] at hm
        subst hm
        have hok : O6.iaOk (iaP (kind, i, p, q, hh, cc, 0)) = true := q2
        have hF : O6.iaF (iaP (kind, i, p, q, hh, cc, 0)) := ⟨q3, q4, q5, q6⟩
        have hsz : (iaO (iaP (kind, i, p, q, hh, cc, 0))).f1.size ≤ d.size := q7
        have hzz := ez_one (iaO (iaP (kind, i, p, q, hh, cc, 0))) (Nat.le_trans hsz ho.1)
        refine ⟨g1, g2, g3, g4, ?_, g6, g7, g8, g9, ?_, ?_, fun q => g12 (frs_cons q).2, fun q => g13 (frs_cons q).2, fun q => g14 (frs_cons q).2, fun q => g15 (frs_cons q).2, fun q => g16 (frs_cons q).2, fun q => g17 (frs_cons q).2, ?_, ?_⟩
        · show (ias ++ [_]).length ≤ 8
          rw [List.length_append, List.length_singleton]; omega
        · show (ias ++ [_]).all O6.iaOk = true
          rw [List.all_append, g10, List.all_cons, hok]; rfl
        · intro a ha
          rcases List.mem_append.1 ha with ha | ha
          · exact g11 a ha
          · obtain rfl := List.mem_singleton.1 ha; exact hF
        · rw [len_all]
          simp only [List.length_append, List.length_singleton] at la ⊢
          omega
        · rw [ez_all]
          simp only [List.map_append, List.map_cons, List.map_nil, ez_app] at ea ⊢
          omega
    · rw [if_neg h8] at hr
      injection hr with hm he
      exact absurd he (by decide)
  · rw [if_neg h7] at hr
    injection hr with hm he
    subst hm
    have hown : ownB c = false := by
      unfold ownB
      simp only [List.contains_cons, List.contains_nil, Bool.or_false, Bool.or_eq_false_iff, beq_eq_false_iff_ne]
      omega
    have hop : opOk ⟨c, d⟩ = true := by
      unfold opOk
      rw [show ownB (⟨c, d⟩ : S42).f0 = false from hown, decide_eq_true (show (⟨c, d⟩ : S42).f1.size ≤ 65535 from ho.1)]
      rfl
    refine ⟨g1, g2, g3, g4, g5, g6, g7, ?_, ?_, g10, g11, fun q => g12 (frs_cons q).2, fun q => g13 (frs_cons q).2, fun q => g14 (frs_cons q).2, fun q => g15 (frs_cons q).2, fun q => g16 (frs_cons q).2, fun q => g17 (frs_cons q).2, ?_, ?_⟩
    · show (ops ++ [_]).all opOk = true
      rw [List.all_append, g8, List.all_cons, hop]; rfl
    · intro x hx
      rcases List.mem_append.1 hx with hx | hx
      · exact g9 x hx
      · obtain rfl := List.mem_singleton.1 hx; exact hoF
    · rw [len_all]
      simp only [List.length_append, List.length_singleton] at la ⊢
      omega
    · rw [ez_all]
      simp only [ez_app] at ea ⊢
      omega
theorem run_gd : ∀ (l : List S42) (n z : Nat) (seen : List Int) (m m' : Ms), Gd n z seen m → (∀ o ∈ l, okO o) → runM l seen m = (m', 0) → ∃ seen', Gd (n + l.length) (z + ez l) seen' m'
  | [], n, z, seen, m, m', h, _, hr => by
    injection hr with hm _
    subst hm
    exact ⟨seen, h⟩
  | o :: l, n, z, seen, m, m', h, ho, hr => by
    rw [runM] at hr
    by_cases hz : (rdM m o (seen.contains o.f0)).2 = 0
    · rw [if_pos hz] at hr
      have h1 := step_gd h (ho o List.mem_cons_self) (Prod.ext rfl hz)
      obtain ⟨s', h2⟩ := run_gd l _ _ _ _ m' h1 (fun x hx => ho x (List.mem_cons_of_mem _ hx)) hr
      refine ⟨s', ?_⟩
      rw [List.length_cons, show n + (l.length + 1) = n + 1 + l.length by omega, show o :: l = [o] ++ l from rfl, ez_app, show z + (ez [o] + ez l) = z + ez [o] + ez l by omega]
      exact h2
    · rw [if_neg hz] at hr
      injection hr with _ he
      exact absurd he hz
theorem new_gd {h : Int} (h1 : 1 ≤ h / 16777216 ∧ h / 16777216 ≤ 11) : Gd 0 0 [] (w6new h) := by
  have hx : Go.bits .and .u32 h 16777215 = h % 16777216 := by
    rw [u32_and _ _ (by omega) (by omega) (by decide) (by decide), show ((16777215 : Int)).toNat = 2 ^ 24 - 1 from rfl, Nat.and_two_pow_sub_one_eq_mod]
    omega
  have e : w6new h = ⟨h / 16777216, h % 16777216, NIL, NIL, [], -1, false, false, 0, []⟩ := by unfold w6new; rw [hx]
  rw [e]
  exact ⟨h1, ⟨by show 0 ≤ h % 16777216; omega, by show h % 16777216 < 16777216; omega⟩, Nat.zero_le _, Nat.zero_le _, Nat.zero_le _, ⟨by show (-1 : Int) ≤ -1; decide, by show (-1 : Int) ≤ 65535; decide⟩, rfl, rfl, fun x hx => (by cases hx), rfl, fun x hx => (by cases hx), fun _ => rfl, fun _ => rfl, fun _ => rfl, fun _ => rfl, fun _ => rfl, fun _ => rfl, by rw [all_nil]; rfl, by rw [all_nil]; exact Nat.le_refl 0⟩
theorem gd_sound {n z : Nat} {seen : List Int} {m : Ms} (h : Gd n z seen m) (hn : n ≤ 128) : SdM m ∧ msF m :=
  ⟨⟨h.ty, h.xid.2, h.cl, h.sv, h.ias, h.code, h.again, h.opts, h.iaOk, by rw [h.cnt]; exact hn⟩, h.iaF, h.optF, ⟨h.xid.1, by have := h.xid.2; omega⟩, by
    have := h.cnt
    rw [allZ_len] at this
    omega⟩
/-- What Decode takes is a message; its bytes are no more. -/
theorem dec_ok {l : List UInt8} {md : Ms} (h : decM l = (md, 0)) : SdM md ∧ msF md ∧ 4 + (emL (allZ md)).length ≤ l.length ∧ l.length ≤ 65507 ∧ (opts (l.drop 4)).2 = 0 ∧ (allZ md).length = (opts (l.drop 4)).1.length := by
  unfold decM at h
  by_cases h1 : 65507 < l.length
  · rw [if_pos h1] at h; injection h with _ h; exact absurd h (by decide)
  rw [if_neg h1] at h
  by_cases h2 : cutB l 0 4 = false
  · rw [if_pos h2] at h; injection h with _ h; exact absurd h (by decide)
  rw [if_neg h2] at h
  by_cases h3 : getN l 0 4 / 16777216 < 1 ∨ getN l 0 4 / 16777216 > 11
  · rw [if_pos h3] at h; injection h with _ h; exact absurd h (by decide)
  rw [if_neg h3] at h
  by_cases h4 : (opts (l.drop 4)).2 = 0
  · rw [if_pos h4] at h
    have ho := opts_ok (l.drop 4)
    obtain ⟨s', hg⟩ := run_gd _ 0 0 [] _ md (new_gd (by omega)) ho.1 h
    have hb := (opts_back (l := l.drop 4) (r := (opts (l.drop 4)).1) (Prod.ext rfl h4)).1
    have hl := cutB_bound (Bool.of_not_eq_false h2)
    obtain ⟨q1, q2⟩ := gd_sound hg (by have := ho.2; omega)
    have hs := hg.siz
    have hc := hg.cnt
    unfold ez at hs
    rw [hb, List.length_drop] at hs
    exact ⟨q1, q2, by omega, by omega, h4, by omega⟩
  · rw [if_neg h4] at h; injection h with _ h; exact absurd h h4
theorem enM_inv {m : Ms} {es : ByteArray} (h : enM m = (es, 0)) : SdM m ∧ 4 + (emL (allZ m)).length ≤ 65507 ∧ es = B (hd4 m ++ emL (allZ m)) := by
  unfold enM at h
  by_cases h1 : sdM m = true
  · rw [if_pos h1] at h
    by_cases h2 : 4 + (emL (allZ m)).length ≤ 65507
    · rw [if_pos h2] at h
      injection h with h3 _
      exact ⟨(sdM_iff m).1 h1, h2, h3.symm⟩
    · rw [if_neg h2] at h; injection h with _ h; exact absurd h (by decide)
  · rw [if_neg h1] at h; injection h with _ h; exact absurd h (by decide)
theorem hd4_len (m : Ms) : (hd4 m).length = 4 := by unfold hd4; exact be4_length _
end Go.Proofs.Ythadapbekmmgpaa.O6


set_option linter.unusedVariables false
set_option linter.unusedSimpArgs false
namespace Go.Proofs.Ythadapbekmmgpaa.O6
open Go Go.RowKit Go.Proofs.YthadapbekmmgpaaW.PrintWords Go.Proofs.YthadapbekmmgpaaW.PrintLast Go.Proofs.YthadapbekmmgpaaW.PrintMore Go.Proofs.Ythadapbekmmgpaa.X Go.Proofs.Ythadapbekmmgpaa.Oct
theorem cut_at : ∀ (zs : List S42) (j : Nat), j ≤ ez zs → ∃ a b, zs = a ++ b ∧ ez a ≤ j ∧ (j = ez a ∨ ∃ z b', b = z :: b' ∧ ez a < j ∧ j < ez a + ez [z])
  | [], j, h => ⟨[], [], rfl, Nat.zero_le _, .inl (Nat.le_zero.1 h)⟩
  | z :: zs, j, h => by
    have e : ez (z :: zs) = ez [z] + ez zs := by rw [show z :: zs = [z] ++ zs from rfl, ez_app]
    by_cases h0 : j = 0
    · exact ⟨[], z :: zs, rfl, Nat.zero_le _, .inl h0⟩
    by_cases h1 : j < ez [z]
    · exact ⟨[], z :: zs, rfl, Nat.zero_le _, .inr ⟨z, zs, rfl, by show 0 < j; omega, by show j < 0 + ez [z]; omega⟩⟩
    · obtain ⟨a, b, q1, q2, q3⟩ := cut_at zs (j - ez [z]) (by omega)
      have ea : ez (z :: a) = ez [z] + ez a := by rw [show z :: a = [z] ++ a from rfl, ez_app]
      refine ⟨z :: a, b, by rw [q1]; rfl, by omega, ?_⟩
      rcases q3 with q3 | ⟨z', b', q4, q5, q6⟩
      · exact .inl (by omega)
      · exact .inr ⟨z', b', q4, by omega, by omega⟩
/-- A row that is cut is short, or some of its options. -/
theorem opts_take (zs : List S42) (ho : emOk zs = true) (hz : ∀ x ∈ zs, okF x) (hl : zs.length ≤ 128) (j : Nat) (hj : j ≤ ez zs) : (∃ a b, zs = a ++ b ∧ opts ((emL zs).take j) = (a, 0)) ∨ opts ((emL zs).take j) = ([], 3) := by
  obtain ⟨a, b, rfl, q2, q3⟩ := cut_at zs j hj
  rw [emOk_app, Bool.and_eq_true] at ho
  rw [List.length_append] at hl
  rcases q3 with rfl | ⟨z, b', rfl, q5, q6⟩
  · left
    refine ⟨a, b, rfl, ?_⟩
    rw [emL_append, List.take_append_of_le_length (by unfold ez; exact Nat.le_refl _), List.take_of_length_le (by unfold ez; exact Nat.le_refl _)]
    exact opts_emit a ho.1 (fun x hx => hz x (List.mem_append_left _ hx)) (by omega)
  · right
    obtain ⟨h1, h2⟩ := emOk_cons ho.2
    have hr : (L z.f1).length ≤ 65535 := by simpa [runOk] using h1
    have hrun : runL (L z.f1) = be2 (L z.f1).length ++ L z.f1 := by unfold runL; rw [if_pos h1]
    have hR : (be2 (L z.f1).length ++ L z.f1).length = 2 + (L z.f1).length := by rw [List.length_append, be2_length]
    have hez : ez [z] = 4 + (L z.f1).length := ez_one z hr
    obtain ⟨r, hj2⟩ : ∃ r, j = ez a + r := ⟨j - ez a, by omega⟩
    have ea : (emL a).length = ez a := rfl
    have e0 : (emL (a ++ z :: b')).take j = [] ++ emL a ++ (be2 z.f0 ++ (be2 (L z.f1).length ++ L z.f1)).take r := by
      rw [emL_append, hj2, List.take_append, List.take_of_length_le (by omega), List.nil_append, ea, show ez a + r - ez a = r by omega, emL, hrun, List.take_append_of_le_length (by rw [List.length_append, be2_length, hR]; omega)]
    have hpl : ((be2 z.f0 ++ (be2 (L z.f1).length ++ L z.f1)).take r).length = r := by rw [List.length_take, List.length_append, be2_length, hR]; omega
    have htl : ((emL (a ++ z :: b')).take j).length = ez a + r := by rw [e0, List.nil_append, List.length_append, hpl, ea]
    have hge := emL_ge a
    have bad : ¬ (cutB ((emL (a ++ z :: b')).take j) ((emL a).length : Int) 2 = true ∧ takeOk ((emL (a ++ z :: b')).take j) (((emL a).length : Int) + 2) = true) := by
      by_cases h2r : r < 2
      · intro q
        have := cutB_bound q.1
        rw [htl, ea] at this
        omega
      · intro q
        have e1 : (emL (a ++ z :: b')).take j = (emL a ++ be2 z.f0) ++ (be2 (L z.f1).length ++ L z.f1).take (r - 2) := by
          rw [e0, List.nil_append, List.take_append, List.take_of_length_le (by rw [be2_length]; omega), be2_length, List.append_assoc]
        have hts := take_short (emL a ++ be2 z.f0) (L z.f1) (r - 2) hr (by omega)
        rw [← e1, show ((emL a ++ be2 z.f0).length : Int) = ((emL a).length : Int) + 2 from by rw [List.length_append, be2_length]; omega] at hts
        rw [hts] at q
        exact absurd q.2 (by decide)
    unfold opts
    rw [htl]
    obtain ⟨d, hd⟩ : ∃ d, ez a + r + 1 = (d + 1) + a.length := ⟨ez a + r - a.length, by omega⟩
    have run := prs_run a [] ((be2 z.f0 ++ (be2 (L z.f1).length ++ L z.f1)).take r) (d + 1) [] ho.1 (fun y hy => hz y (List.mem_append_left _ hy)) (by simp only [List.length_nil]; omega)
    rw [← e0, List.nil_append, List.nil_append] at run
    rw [hd]
    refine run.trans ?_
    rw [prs, if_pos (by rw [htl, ea]; omega), if_neg bad]
theorem opZ_count (is : Bool) (c : Int) (d : ByteArray) : (opZ is c d).length = if is = true then 1 else 0 := by cases is <;> rfl
theorem count6 (b1 b2 b3 b4 b5 b6 : Bool) : ([b1, b2, b3, b4, b5, b6] : List Bool).count true = (if b1 = true then 1 else 0) + ((if b2 = true then 1 else 0) + ((if b3 = true then 1 else 0) + ((if b4 = true then 1 else 0) + ((if b5 = true then 1 else 0) + (if b6 = true then 1 else 0))))) := by
  cases b1 <;> cases b2 <;> cases b3 <;> cases b4 <;> cases b5 <;> cases b6 <;> rfl
/-- How many options the fields tell. -/
theorem fields_all {m : Ms} (hs : SdM m) : (allZ m).length = m.opts.length + m.ias.length + w6fields m := by
  rw [len_all]
  simp only [opZ_count]
  unfold w6fields w6told
  rw [count6]
  have : (m.code != -1) = decide (0 ≤ m.code) := by
    have := hs.code
    by_cases h : m.code = -1
    · rw [h]; rfl
    · rw [decide_eq_true (by omega)]; simpa using h
  rw [this]
  omega
end Go.Proofs.Ythadapbekmmgpaa.O6


set_option linter.unusedVariables false
set_option linter.unusedSimpArgs false
namespace Go.Proofs.Ythadapbekmmgpaa.O6
open Go Go.RowKit Go.Proofs.YthadapbekmmgpaaW.PrintWords Go.Proofs.YthadapbekmmgpaaW.PrintLast Go.Proofs.YthadapbekmmgpaaW.PrintMore Go.Proofs.Ythadapbekmmgpaa.X Go.Proofs.Ythadapbekmmgpaa.Oct
theorem dec_head {m : Ms} (hs : SdM m) (hm : msF m) (F : List UInt8) (hb : 4 + F.length ≤ 65507) : decM (hd4 m ++ F) = if (opts F).2 = 0 then runM (opts F).1 [] ⟨m.ty, m.xid, NIL, NIL, [], -1, false, false, 0, []⟩ else (mZ, (opts F).2) := by
  obtain ⟨h1, h2, h3⟩ := hd4_get hs hm F
  have ht := hs.ty
  have hx := hs.xid
  have hx0 := hm.2.2.1
  unfold decM
  rw [if_neg (by rw [List.length_append, hd4_len]; omega), h1, if_neg (by decide), h2, if_neg (by omega), h3, new_eq hs hm]
theorem dec_few {l : List UInt8} (h : l.length < 4) : decM l = (mZ, 3) := by
  unfold decM
  have : cutB l 0 4 = false := by
    unfold cutB
    exact decide_eq_false (fun q => by omega)
  rw [if_neg (by omega), this, if_pos rfl]
/-- The bytes with another type. -/
theorem dec_kind {m : Ms} (hs : SdM m) (hm : msF m) (E : List UInt8) (hb : 4 + E.length ≤ 65507) (K : Int) (hK : 0 ≤ K ∧ K < 256) (hn : ¬ (1 ≤ K ∧ K ≤ 11)) : decM ([b8 K] ++ (hd4 m ++ E).drop 1) = (mZ, 141) := by
  have hx := hs.xid
  have hx0 := hm.2.2.1
  have ht := hs.ty
  have e : [b8 K] ++ (hd4 m ++ E).drop 1 = be4 (K * 16777216 + m.xid) ++ E := by
    unfold hd4 be4
    have q1 : (K * 16777216 + m.xid) / 16777216 = K := by omega
    have q2 : b8 ((m.ty * 16777216 + m.xid) / 65536) = b8 ((K * 16777216 + m.xid) / 65536) := by unfold b8; congr 2; omega
    have q3 : b8 ((m.ty * 16777216 + m.xid) / 256) = b8 ((K * 16777216 + m.xid) / 256) := by unfold b8; congr 2; omega
    have q4 : b8 (m.ty * 16777216 + m.xid) = b8 (K * 16777216 + m.xid) := by unfold b8; congr 2; omega
    rw [q1, ← q2, ← q3, ← q4]
    rfl
  have hc : cutB (be4 (K * 16777216 + m.xid) ++ E) 0 4 = true := by
    unfold cutB
    rw [decide_eq_true_eq, List.length_append, be4_length]
    omega
  rw [e]
  unfold decM
  rw [if_neg (by rw [List.length_append, be4_length]; omega), hc, if_neg (by decide), getN_head (be4 (K * 16777216 + m.xid)) E 4 rfl, num_be4 _ (by omega) (by omega), if_pos (by omega)]
theorem cut_mod {cut : Int} {n : Nat} (hn : 1 ≤ n) : ∃ c : Nat, c < n ∧ (IntKind.u64.wrap cut).tmod (n : Int) = (c : Int) := by
  have e : IntKind.u64.wrap cut = cut % 18446744073709551616 := by simp [IntKind.wrap, IntKind.bits, IntKind.signed]
  have h0 : 0 ≤ IntKind.u64.wrap cut := by rw [e]; omega
  rw [Int.tmod_eq_emod_of_nonneg h0]
  have h1 := Int.emod_nonneg (IntKind.u64.wrap cut) (show (n : Int) ≠ 0 by omega)
  have h2 := Int.emod_lt_of_pos (IntKind.u64.wrap cut) (show 0 < (n : Int) by omega)
  exact ⟨(IntKind.u64.wrap cut % (n : Int)).toNat, by omega, by omega⟩
theorem run_pre {a b : List S42} {m0 m : Ms} (h : runM (a ++ b) [] m0 = (m, 0)) : (runM a [] m0).2 = 0 := by
  rw [runM_app] at h
  by_cases hz : (runM a [] m0).2 = 0
  · exact hz
  · rw [if_neg hz] at h
    rw [h]
end Go.Proofs.Ythadapbekmmgpaa.O6


set_option linter.unusedVariables false
namespace Go.Proofs.Ythadapbekmmgpaa.O6
open Go Go.RowKit Go.Proofs.YthadapbekmmgpaaW.PrintWords Go.Proofs.YthadapbekmmgpaaW.PrintLast Go.Proofs.YthadapbekmmgpaaW.PrintMore Go.Proofs.Ythadapbekmmgpaa.X Go.Proofs.Ythadapbekmmgpaa.Oct
def mOf (x : S26) : Ms := ⟨x.f0, x.f1, x.f2, x.f3, x.f4, x.f5, x.f6, x.f7, x.f8, x.f9⟩
theorem iaF_wf {a : S51} (h : wf51 a) : iaF a := ⟨fun y hy => okX_wf (h.2.2.2.2.1.2 y hy), wf_u32 h.2.1, wf_u32 h.2.2.1, wf_u32 h.2.2.2.1⟩
theorem okF_wf {o : S42} (h : wf42 o) : okF o := wf_u16 h.1
theorem msF_wf {x : S26} (h : wf26 x) : msF (mOf x) := by
  obtain ⟨h0, h1, h2, h3, ⟨h4, h4'⟩, h5, h6, h7, h8, ⟨h9, h9'⟩⟩ := h
  refine ⟨fun a ha => iaF_wf (h4' a ha), fun o ho => okF_wf (h9' o ho), wf_u32 h1, ?_⟩
  show x.f9.length ≤ _
  omega
end Go.Proofs.Ythadapbekmmgpaa.O6


set_option linter.unusedVariables false
namespace Go.Proofs.Ythadapbekmmgpaa.Pure
open Go Go.RowKit Go.Proofs.YthadapbekmmgpaaW.PrintWords Go.Proofs.YthadapbekmmgpaaW.PrintLast Go.Proofs.YthadapbekmmgpaaW.PrintMore Go.Proofs.Ythadapbekmmgpaa.X Go.Proofs.Ythadapbekmmgpaa.Oct Go.Proofs.Ythadapbekmmgpaa.O6
theorem Wire6Short (x : S26) (cut kind : Int) (hx : wf26 x) (hcw : (Lit.int .i64 cut).wf = true) (hkw : (Lit.int .i64 kind).wf = true) (Ai : Option Addr) (ci : Nat) (Ao : Option Addr) (co : Nat) (W : World) (hr4 : Kd.C k51 W Ai x.f4.length x.f4) (hc4 : x.f4.length ≤ ci) (hr9 : Kd.C k42 W Ao x.f9.length x.f9) (hc9 : x.f9.length ≤ co) :
    Calls Try.prog 8 #[.agg #[.int .i64 x.f0, .int .u32 x.f1, .string x.f2, .string x.f3, .slice Ai x.f4.length ci, .int .i64 x.f5, .bool x.f6, .bool x.f7, .int .i64 x.f8, .slice Ao x.f9.length co], .int .i64 cut, .int .i64 kind] W fun e w' => e = .returned (.bool true) ∧ Below W.heap.size W w' := by
  have hm := msF_wf hx
  have aw := tenancylaw16_awake.yes
  obtain ⟨k, hk⟩ : ∃ k, k = (mOf x).opts.length + 2000 := ⟨_, rfl⟩
  have hen := encode_eq (mOf x) hm k (by omega)
  cases he : enM (mOf x) with
  | mk es ee =>
    rw [he] at hen
    by_cases h0 : ee = 0
    · subst h0
      obtain ⟨q1, q2, q3⟩ := enM_inv he
      have hz : es.size = 4 + (emL (allZ (mOf x))).length := by rw [q3, size_B, List.length_append, hd4_len]
      have hLe : L es = hd4 (mOf x) ++ emL (allZ (mOf x)) := by rw [q3, L_B]
      have hsz : 1 ≤ es.size ∧ es.size ≤ 65507 := by omega
      obtain ⟨c, hc1, hc2⟩ := cut_mod (cut := cut) hsz.1
      have hLc : L (es.extract 0 c) = (hd4 (mOf x) ++ emL (allZ (mOf x))).take c := by rw [L_extract, hLe, List.drop_zero, Nat.sub_zero]
      have hdc := decode_eq (es.extract 0 c) (by rw [ByteArray.size_extract]; omega) k (by omega)
      by_cases h4 : c < 4
      · rw [hLc, dec_few (by rw [List.length_take]; omega)] at hdc
        exact w6short_cut k (mOf x) Ai Ao ci co cut kind es W hr4 hc4 hr9 hc9 aw hen hsz c ⟨hc1, hc2⟩ mZ hdc h4
      · have hL4 : (hd4 (mOf x) ++ emL (allZ (mOf x))).take c = hd4 (mOf x) ++ (emL (allZ (mOf x))).take (c - 4) := by
          rw [List.take_append, List.take_of_length_le (by rw [hd4_len]; omega), hd4_len]
        have hpa := parse_eq (es.extract 4 c) (by rw [ByteArray.size_extract]; omega) k (by omega)
        have hLp : L (es.extract 4 c) = (emL (allZ (mOf x))).take (c - 4) := by
          rw [L_extract, hLe, List.drop_append_of_le_length (by rw [hd4_len]; omega), List.drop_of_length_le (by rw [hd4_len]; omega), List.nil_append]
        rw [hLp] at hpa
        have hdh := dec_head q1 hm ((emL (allZ (mOf x))).take (c - 4)) (by rw [List.length_take]; omega)
        rw [hLc, hL4] at hdc
        rcases opts_take (allZ (mOf x)) (allZ_ok q1) (allZ_F hm) q1.all (c - 4) (by unfold ez; omega) with ⟨a, b, ha, ho⟩ | ho
        · rw [ho] at hpa hdh
          rw [if_pos rfl] at hdh
          have hr0 : (runM a [] ⟨(mOf x).ty, (mOf x).xid, NIL, NIL, [], -1, false, false, 0, []⟩).2 = 0 := run_pre (b := b) (m := mOf x) (by rw [← ha]; exact run_all q1 hm)
          cases hd : runM a [] ⟨(mOf x).ty, (mOf x).xid, NIL, NIL, [], -1, false, false, 0, []⟩ with
          | mk md er =>
            rw [hd] at hr0 hdh
            have he0 : er = 0 := hr0
            subst he0
            obtain ⟨d1, d2, d3, d4, d5, d6⟩ := dec_ok hdh
            have hdrop : (hd4 (mOf x) ++ (emL (allZ (mOf x))).take (c - 4)).drop 4 = (emL (allZ (mOf x))).take (c - 4) := (hd4_get q1 hm _).2.2
            rw [hdrop, ho, fields_all d1] at d6
            have d7 := d1.all
            rw [fields_all d1] at d7
            rw [hdh] at hdc
            exact w6short_parse k (mOf x) Ai Ao ci co cut kind es W hr4 hc4 hr9 hc9 aw hen hsz c ⟨hc1, hc2⟩ md hdc (by omega) a hpa d6.symm (by omega)
        · rw [ho] at hpa hdh
          rw [if_neg (by decide)] at hdh
          rw [hdh] at hdc
          have hdk : ¬ (1 ≤ kind % 256 ∧ kind % 256 ≤ 11) → wire6_Decode.f k (strOfNums [kind % 256] ++ es.extract 1 es.size) = some (mZ, 141) := fun hn => by
            have hB : strOfNums [kind % 256] = B [b8 (kind % 256)] := strOfNums_B [kind % 256] (fun y hy => by obtain rfl := List.mem_singleton.1 hy; omega)
            rw [decode_eq _ (by rw [hB, ByteArray.size_append, size_B, ByteArray.size_extract, List.length_singleton]; omega) k (by omega), hB, L_append, L_B, extract_from, hLe]
            rw [dec_kind q1 hm (emL (allZ (mOf x))) (by omega) (kind % 256) (by omega) hn]
          by_cases hk1 : 1 ≤ kind % 256
          · by_cases hk2 : kind % 256 ≤ 11
            · exact w6short_kind k (mOf x) Ai Ao ci co cut kind es W hr4 hc4 hr9 hc9 aw hen hsz c ⟨hc1, hc2⟩ mZ hdc (by omega) [] hpa ⟨hk1, hk2⟩
            · exact w6short_far k (mOf x) Ai Ao ci co cut kind es W hr4 hc4 hr9 hc9 aw hen hsz c ⟨hc1, hc2⟩ mZ hdc (by omega) [] hpa ⟨hk1, hk2⟩ mZ (hdk (fun h => hk2 h.2))
          · exact w6short_none k (mOf x) Ai Ao ci co cut kind es W hr4 hc4 hr9 hc9 aw hen hsz c ⟨hc1, hc2⟩ mZ hdc (by omega) [] hpa hk1 mZ (hdk (fun h => hk1 h.1))
    · exact w6short_err k (mOf x) Ai Ao ci co cut kind es ee W hr4 hc4 hr9 hc9 aw hen (by simpa using h0)
end Go.Proofs.Ythadapbekmmgpaa.Pure
