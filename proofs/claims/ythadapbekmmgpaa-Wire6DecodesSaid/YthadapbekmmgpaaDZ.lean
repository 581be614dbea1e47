/- The plain side: what the program and the reference compute, as plain lemmas; conditions: as each lemma says. -/
import Derived.Test.YthadapbekmmgpaaDX0
import Derived.Test.YthadapbekmmgpaaDX9
import Derived.Test.YthadapbekmmgpaaDXCv
import Derived.Test.YthadapbekmmgpaaDXE3
import Derived.Test.YthadapbekmmgpaaDXE4
import Derived.Test.YthadapbekmmgpaaDXF3
import Derived.Test.YthadapbekmmgpaaDXF4
import Derived.Test.YthadapbekmmgpaaDXIn
import Derived.Test.YthadapbekmmgpaaDXOrow
import Derived.Test.YthadapbekmmgpaaDXReg
import Derived.Test.YthadapbekmmgpaaDXRegF
import Derived.Test.YthadapbekmmgpaaDXRegP
import Derived.Laws.BitsAllLaws
import Derived.Lib.Strings
import Derived.Outline
import Derived.Lib.Hide
import Derived.Laws.IdiomCopy
import Derived.Lib.SliceRun
import Derived.WalkSpells
set_option linter.unusedVariables false
set_option linter.unusedSimpArgs false
namespace Go.Proofs.Ythadapbekmmgpaa.Oct
open Go.RowKit Go.Proofs.YthadapbekmmgpaaW.PrintWords Go.Proofs.YthadapbekmmgpaaW.PrintLast Go.Proofs.YthadapbekmmgpaaW.PrintMore Go.Proofs.Ythadapbekmmgpaa.X

/-- A string out of its bytes. -/
def B (l : List UInt8) : ByteArray := ⟨l.toArray⟩
/-- A string's bytes. -/
def L (s : ByteArray) : List UInt8 := s.data.toList
theorem L_B (l : List UInt8) : L (B l) = l := rfl
theorem B_L (s : ByteArray) : B (L s) = s := rfl
theorem toList_L (s : ByteArray) : s.toList = L s := ByteArray.toList_eq s
theorem size_L (s : ByteArray) : s.size = (L s).length := rfl
theorem L_append (a b : ByteArray) : L (a ++ b) = L a ++ L b := by simp [L, ByteArray.data_append]
theorem B_append (a b : List UInt8) : B a ++ B b = B (a ++ b) := by
  rw [← B_L (B a ++ B b), L_append, L_B, L_B]
theorem L_extract (s : ByteArray) (a b : Nat) : L (s.extract a b) = ((L s).drop a).take (b - a) := Lib.extract_data s a b
theorem ext_L {a b : ByteArray} (h : L a = L b) : a = b := by rw [← B_L a, ← B_L b, h]
theorem size_B (l : List UInt8) : (B l).size = l.length := rfl
/-- A number's low byte. -/
def b8 (n : Int) : UInt8 := UInt8.ofNat (n % 256).toNat
theorem b8_mod (n : Int) : b8 (n % 256) = b8 n := by unfold b8; rw [Int.emod_emod]
theorem strOfNums_B (l : List Int) (h : ∀ x ∈ l, 0 ≤ x ∧ x < 256) : strOfNums l = B (l.map b8) := by
  unfold strOfNums B
  congr 2
  apply List.map_congr_left
  intro x hx
  obtain ⟨h0, h1⟩ := h x hx
  unfold b8
  rw [Int.emod_eq_of_lt h0 h1]
/-- The bytes of numbers, the highest first. -/
def be2 (a : Int) : List UInt8 := [b8 (a / 256), b8 a]
def be4 (a : Int) : List UInt8 := [b8 (a / 16777216), b8 (a / 65536), b8 (a / 256), b8 a]
def be8 (a : Int) : List UInt8 := [b8 (a / 72057594037927936), b8 (a / 281474976710656), b8 (a / 1099511627776), b8 (a / 4294967296), b8 (a / 16777216), b8 (a / 65536), b8 (a / 256), b8 a]

theorem w64 {n : Int} (h : -9223372036854775808 ≤ n ∧ n ≤ 9223372036854775807) : wrap64 n = n := by unfold wrap64; omega

theorem wf_u16 {n : Int} (h : (Lit.int .u16 n).wf = true) : 0 ≤ n ∧ n < 65536 := by
  have h : 0 ≤ n ∧ n ≤ 65535 := by simpa [Lit.wf, IntKind.min, IntKind.max, IntKind.bits, IntKind.signed] using h
  omega
/-- The number that bytes are, the highest first. -/
def num (l : List UInt8) : Int := l.foldl (fun x c => x * 256 + (c.toNat : Int)) 0
theorem num_from (l : List UInt8) : ∀ x : Int, l.foldl (fun x c => x * 256 + (c.toNat : Int)) x = x * 256 ^ l.length + num l := by
  unfold num
  induction l with
  | nil => intro x; simp
  | cons c l ih =>
    intro x
    rw [List.foldl_cons, List.foldl_cons, ih, ih (0 * 256 + (c.toNat : Int)), List.length_cons, Int.pow_succ, Int.zero_mul, Int.zero_add]
    rw [Int.add_mul, Int.mul_assoc, Int.mul_comm 256 ((256 : Int) ^ l.length)]
    omega
theorem num_cons (c : UInt8) (l : List UInt8) : num (c :: l) = (c.toNat : Int) * 256 ^ l.length + num l := by
  have := num_from l (c.toNat : Int)
  unfold num
  rw [List.foldl_cons, show (0 : Int) * 256 + (c.toNat : Int) = (c.toNat : Int) by omega, this]
  rfl
theorem num_range (l : List UInt8) : 0 ≤ num l ∧ num l < 256 ^ l.length := by
  induction l with
  | nil => simp [num]
  | cons c l ih =>
    rw [num_cons, List.length_cons, Int.pow_succ]
    have h := c.toNat_lt
    have h0 : (c.toNat : Int) ≤ 255 := by omega
    have hp : (0 : Int) < 256 ^ l.length := Int.pow_pos (by omega)
    have h1 : (c.toNat : Int) * 256 ^ l.length ≤ 255 * 256 ^ l.length := Int.mul_le_mul_of_nonneg_right h0 (Int.le_of_lt hp)
    have h2 : 0 ≤ (c.toNat : Int) * 256 ^ l.length := Int.mul_nonneg (by omega) (Int.le_of_lt hp)
    omega
/-- A fold that wraps at each step wraps once. -/
theorem fold_mod (M : Int) (l : List UInt8) : ∀ x : Int, l.foldl (fun x c => (x * 256 + (c.toNat : Int)) % M) (x % M) = (l.foldl (fun x c => x * 256 + (c.toNat : Int)) x) % M := by
  induction l with
  | nil => intro x; rfl
  | cons c l ih =>
    intro x
    rw [List.foldl_cons, List.foldl_cons, ← ih]
    congr 1
    rw [Int.add_emod, Int.mul_emod, Int.emod_emod, ← Int.mul_emod, ← Int.add_emod]

/-- A piece: n bytes from at on; or nothing. -/
def cutB (l : List UInt8) (at_ n : Int) : Bool := decide (0 ≤ at_ ∧ 0 ≤ n ∧ at_ + n ≤ l.length)
def cutL (l : List UInt8) (at_ n : Int) : List UInt8 := if cutB l at_ n = true then (l.drop at_.toNat).take n.toNat else []
theorem cutL_length (l : List UInt8) (at_ n : Int) : (cutL l at_ n).length = if cutB l at_ n = true then n.toNat else 0 := by
  unfold cutL
  split
  · rename_i h
    simp only [cutB, decide_eq_true_eq] at h
    rw [List.length_take, List.length_drop]
    omega
  · rfl
theorem mn_lt (a b : Int) : mn a b < 0 ↔ a < 0 ∨ b < 0 := by unfold mn; split <;> omega
theorem cut (s : ByteArray) (at_ n : Int) (hs : s.size ≤ 4611686018427387904) (ha : -9223372036854775808 ≤ at_ ∧ at_ ≤ 9223372036854775807) (hn : -9223372036854775808 ≤ n ∧ n ≤ 9223372036854775807) :
    octet_Cut.f s at_ n = some (B (cutL (L s) at_ n), cutB (L s) at_ n) := by
  unfold octet_Cut.f cutL
  have hl : ((L s).length : Int) = s.size := by rw [size_L]
  by_cases h1 : mn at_ n < 0
  · rw [if_pos h1]
    have h1' := (mn_lt _ _).1 h1
    have hb : cutB (L s) at_ n = false := by simp only [cutB, decide_eq_false_iff_not]; omega
    rw [hb]; rfl
  · rw [if_neg h1]
    have h1' : ¬ (at_ < 0 ∨ n < 0) := fun h => h1 ((mn_lt _ _).2 h)
    by_cases h2 : at_ > (s.size : Int)
    · rw [if_pos h2]
      have hb : cutB (L s) at_ n = false := by simp only [cutB, decide_eq_false_iff_not]; omega
      rw [hb]; rfl
    · rw [if_neg h2, w64 (by omega)]
      by_cases h3 : n > (s.size : Int) - at_
      · rw [if_pos h3]
        have hb : cutB (L s) at_ n = false := by simp only [cutB, decide_eq_false_iff_not]; omega
        rw [hb]; rfl
      · have hb : cutB (L s) at_ n = true := by simp only [cutB, decide_eq_true_eq]; omega
        have he : (s.extract at_.toNat s.size).size = s.size - at_.toNat := by rw [ByteArray.size_extract, Nat.min_self]
        rw [if_neg h3, if_pos (by omega), if_pos (by omega), if_pos (by omega), if_pos (by rw [he]; omega), hb, if_pos rfl]
        refine congrArg some (Prod.ext ?_ rfl)
        apply ext_L
        rw [L_extract, L_extract, L_B, List.drop_zero, Nat.sub_zero, List.take_take]
        congr 1
        omega
theorem conv (s : ByteArray) (hs : s.size ≤ 4611686018427387904) : conv9_47.f s = some (bytesOf s) := by
  unfold conv9_47.f
  rw [if_pos (by omega)]
theorem bytesOf_L (s : ByteArray) : bytesOf s = (L s).map fun c => (c.toNat : Int) := rfl
theorem rd_at (l : List UInt8) (i : Nat) (h : i < l.length) : rd (l.map fun c => (c.toNat : Int)) (i : Int) = (l[i].toNat : Int) := by
  simp [rd, List.getD_eq_getElem?_getD, h]
theorem bt_L (s : ByteArray) (i : Nat) (h : i < (L s).length) : bt s (i : Int) = ((L s)[i].toNat : Int) := by
  unfold bt
  rw [dif_pos (show ((i : Int)).toNat < s.size by rw [size_L]; omega)]
  rfl

theorem put16 {k : Nat} (hk : 4 ≤ k) (a : Int) (h0 : 0 ≤ a) (h1 : a < 65536) : octet_put_uint16.f k a 2 = some (B (be2 a)) := by
  obtain ⟨k, rfl⟩ : ∃ m, k = m + 4 := ⟨k - 4, by omega⟩
  have e : strOfNums [a / 256 % 256, a % 256] = B (be2 a) := by
    rw [strOfNums_B _ (by intro x hx; simp at hx; omega)]
    simp [be2, b8_mod]
  rw [← e]
  simp [octet_put_uint16.f, octet_put_uint16.l0, wrap64, shr, IntKind.bits, List.replicate]
theorem put32 {k : Nat} (hk : 6 ≤ k) (a : Int) (h0 : 0 ≤ a) (h1 : a < 4294967296) : octet_put_uint32.f k a 4 = some (B (be4 a)) := by
  obtain ⟨k, rfl⟩ : ∃ m, k = m + 6 := ⟨k - 6, by omega⟩
  have e : strOfNums [a / 16777216 % 256, a / 65536 % 256, a / 256 % 256, a % 256] = B (be4 a) := by
    rw [strOfNums_B _ (by intro x hx; simp at hx; omega)]
    simp [be4, b8_mod]
  rw [← e]
  simp [octet_put_uint32.f, octet_put_uint32.l0, wrap64, shr, IntKind.bits, List.replicate]
theorem put64 {k : Nat} (hk : 10 ≤ k) (a : Int) (h0 : 0 ≤ a) (h1 : a < 18446744073709551616) : octet_put_uint64.f k a 8 = some (B (be8 a)) := by
  obtain ⟨k, rfl⟩ : ∃ m, k = m + 10 := ⟨k - 10, by omega⟩
  have e : strOfNums [a / 72057594037927936 % 256, a / 281474976710656 % 256, a / 1099511627776 % 256, a / 4294967296 % 256, a / 16777216 % 256, a / 65536 % 256, a / 256 % 256, a % 256] = B (be8 a) := by
    rw [strOfNums_B _ (by intro x hx; simp at hx; omega)]
    simp [be8, b8_mod]
  rw [← e]
  simp [octet_put_uint64.f, octet_put_uint64.l0, wrap64, shr, IntKind.bits, List.replicate]

/-- Below a byte shifted up there is room for one. -/
theorem or_step (w : Nat) (x c : Nat) (hc : c < 256) : (x * 256) % 2 ^ (w + 8) ||| c = (x * 256 + c) % 2 ^ (w + 8) := by
  have hp : (2 : Nat) ^ (w + 8) = 2 ^ w * 256 := by rw [Nat.pow_add]
  have h1 : (x * 256) % 2 ^ (w + 8) = (x % 2 ^ w) * 256 := by rw [hp, Nat.mul_mod_mul_right]
  have h2 : (x * 256 + c) % 2 ^ (w + 8) = (x % 2 ^ w) * 256 + c := by
    rw [hp, Nat.add_mod, Nat.mul_mod_mul_right]
    have h3 : x % 2 ^ w < 2 ^ w := Nat.mod_lt _ (Nat.pow_pos (by omega))
    have h4 : (x % 2 ^ w) * 256 + 256 ≤ 2 ^ w * 256 := by
      rw [← Nat.succ_mul]
      exact Nat.mul_le_mul_right _ h3
    have h5 : c % (2 ^ w * 256) = c := Nat.mod_eq_of_lt (by omega)
    rw [h5]
    exact Nat.mod_eq_of_lt (by omega)
  rw [h1, h2, show (x % 2 ^ w) * 256 = 2 ^ 8 * (x % 2 ^ w) by omega]
  exact (Nat.two_pow_add_eq_or_of_lt (i := 8) hc (x % 2 ^ w)).symm

theorem step16 (x : Int) (c : UInt8) (h0 : 0 ≤ x) (h1 : x < 65536) : Go.bits .or .u16 (IntKind.u16.wrap (x * 256)) (IntKind.u16.wrap (c.toNat : Int)) = (x * 256 + (c.toNat : Int)) % 65536 := by
  have hc := c.toNat_lt
  obtain ⟨n, rfl⟩ : ∃ n : Nat, x = (n : Int) := ⟨x.toNat, by omega⟩
  have e1 : IntKind.u16.wrap ((n : Int) * 256) = ((n * 256 % 65536 : Nat) : Int) := by simp [IntKind.wrap, IntKind.bits, IntKind.signed]
  have e2 : IntKind.u16.wrap (c.toNat : Int) = ((c.toNat : Nat) : Int) := by simp [IntKind.wrap, IntKind.bits, IntKind.signed]; omega
  rw [e1, e2, u16_or_nat _ _ (Nat.mod_lt _ (by omega)) (by omega)]
  have := or_step 8 n c.toNat (by omega)
  rw [show (2 : Nat) ^ (8 + 8) = 65536 by decide] at this
  rw [this]
  omega
theorem step32 (x : Int) (c : UInt8) (h0 : 0 ≤ x) (h1 : x < 4294967296) : Go.bits .or .u32 ((x * 256) % 4294967296) ((c.toNat : Int) % 4294967296) = (x * 256 + (c.toNat : Int)) % 4294967296 := by
  have hc := c.toNat_lt
  obtain ⟨n, rfl⟩ : ∃ n : Nat, x = (n : Int) := ⟨x.toNat, by omega⟩
  have e1 : ((n : Int) * 256) % 4294967296 = ((n * 256 % 4294967296 : Nat) : Int) := by omega
  have e2 : (c.toNat : Int) % 4294967296 = ((c.toNat : Nat) : Int) := by omega
  rw [e1, e2, u32_or_nat _ _ (Nat.mod_lt _ (by omega)) (by omega)]
  have := or_step 24 n c.toNat (by omega)
  rw [show (2 : Nat) ^ (24 + 8) = 4294967296 by decide] at this
  rw [this]
  omega
theorem step64 (x : Int) (c : UInt8) (h0 : 0 ≤ x) (h1 : x < 18446744073709551616) : Go.bits .or .u64 (IntKind.u64.wrap (x * 256)) (IntKind.u64.wrap (c.toNat : Int)) = (x * 256 + (c.toNat : Int)) % 18446744073709551616 := by
  have hc := c.toNat_lt
  obtain ⟨n, rfl⟩ : ∃ n : Nat, x = (n : Int) := ⟨x.toNat, by omega⟩
  have e1 : IntKind.u64.wrap ((n : Int) * 256) = ((n * 256 % 18446744073709551616 : Nat) : Int) := by simp [IntKind.wrap, IntKind.bits, IntKind.signed]
  have e2 : IntKind.u64.wrap (c.toNat : Int) = ((c.toNat : Nat) : Int) := by simp [IntKind.wrap, IntKind.bits, IntKind.signed]; omega
  rw [e1, e2, u64_or_nat _ _ (Nat.mod_lt _ (by omega)) (by omega)]
  have := or_step 56 n c.toNat (by omega)
  rw [show (2 : Nat) ^ (56 + 8) = 18446744073709551616 by decide] at this
  rw [this]
  omega
theorem drop_cons (l : List UInt8) (i : Nat) (h : i < l.length) : l.drop i = l[i] :: l.drop (i + 1) := List.drop_eq_getElem_cons h

theorem loop16 (l : List UInt8) (b : Bool) (hl : l.length ≤ 4611686018427387904) (d : Nat) : ∀ (k i : Nat) (x : Int), l.length - i = d → i ≤ l.length → d < k → 0 ≤ x → x < 65536 →
    octet_get_uint16.l0 k b x (l.map fun c => (c.toNat : Int)) (l.length : Int) (i : Int) = some ((l.drop i).foldl (fun x c => (x * 256 + (c.toNat : Int)) % 65536) x, b) := by
  induction d with
  | zero =>
    intro k i x hd hi hk h0 h1
    obtain ⟨k, rfl⟩ : ∃ m, k = m + 1 := ⟨k - 1, by omega⟩
    rw [octet_get_uint16.l0, if_neg (by omega), List.drop_of_length_le (by omega)]
    rfl
  | succ d ih =>
    intro k i x hd hi hk h0 h1
    obtain ⟨k, rfl⟩ : ∃ m, k = m + 1 := ⟨k - 1, by omega⟩
    have hlt : i < l.length := by omega
    rw [octet_get_uint16.l0, if_pos (by omega), if_pos (by omega), if_pos (by rw [List.length_map]; omega), rd_at l i hlt, step16 x _ h0 h1, w64 (by omega), drop_cons l i hlt, List.foldl_cons]
    exact ih k (i + 1) _ (by omega) (by omega) (by omega) (Int.emod_nonneg _ (by omega)) (Int.emod_lt_of_pos _ (by omega))
theorem loop32 (l : List UInt8) (b : Bool) (hl : l.length ≤ 4611686018427387904) (d : Nat) : ∀ (k i : Nat) (x : Int), l.length - i = d → i ≤ l.length → d < k → 0 ≤ x → x < 4294967296 →
    octet_get_uint32.l0 k b x (l.map fun c => (c.toNat : Int)) (l.length : Int) (i : Int) = some ((l.drop i).foldl (fun x c => (x * 256 + (c.toNat : Int)) % 4294967296) x, b) := by
  induction d with
  | zero =>
    intro k i x hd hi hk h0 h1
    obtain ⟨k, rfl⟩ : ∃ m, k = m + 1 := ⟨k - 1, by omega⟩
    rw [octet_get_uint32.l0, if_neg (by omega), List.drop_of_length_le (by omega)]
    rfl
  | succ d ih =>
    intro k i x hd hi hk h0 h1
    obtain ⟨k, rfl⟩ : ∃ m, k = m + 1 := ⟨k - 1, by omega⟩
    have hlt : i < l.length := by omega
    rw [octet_get_uint32.l0, if_pos (by omega), if_pos (by omega), if_pos (by rw [List.length_map]; omega), rd_at l i hlt, step32 x _ h0 h1, w64 (by omega), drop_cons l i hlt, List.foldl_cons]
    exact ih k (i + 1) _ (by omega) (by omega) (by omega) (Int.emod_nonneg _ (by omega)) (Int.emod_lt_of_pos _ (by omega))
theorem loop64 (l : List UInt8) (b : Bool) (hl : l.length ≤ 4611686018427387904) (d : Nat) : ∀ (k i : Nat) (x : Int), l.length - i = d → i ≤ l.length → d < k → 0 ≤ x → x < 18446744073709551616 →
    octet_get_uint64.l0 k b x (l.map fun c => (c.toNat : Int)) (l.length : Int) (i : Int) = some ((l.drop i).foldl (fun x c => (x * 256 + (c.toNat : Int)) % 18446744073709551616) x, b) := by
  induction d with
  | zero =>
    intro k i x hd hi hk h0 h1
    obtain ⟨k, rfl⟩ : ∃ m, k = m + 1 := ⟨k - 1, by omega⟩
    rw [octet_get_uint64.l0, if_neg (by omega), List.drop_of_length_le (by omega)]
    rfl
  | succ d ih =>
    intro k i x hd hi hk h0 h1
    obtain ⟨k, rfl⟩ : ∃ m, k = m + 1 := ⟨k - 1, by omega⟩
    have hlt : i < l.length := by omega
    rw [octet_get_uint64.l0, if_pos (by omega), if_pos (by omega), if_pos (by rw [List.length_map]; omega), rd_at l i hlt, step64 x _ h0 h1, w64 (by omega), drop_cons l i hlt, List.foldl_cons]
    exact ih k (i + 1) _ (by omega) (by omega) (by omega) (Int.emod_nonneg _ (by omega)) (Int.emod_lt_of_pos _ (by omega))

/-- A number read at a place. -/
def getN (l : List UInt8) (at_ : Int) (n : Int) : Int := num (cutL l at_ n)
theorem cut_small (l : List UInt8) (at_ : Int) (n : Nat) : (cutL l at_ (n : Int)).length ≤ n := by
  rw [cutL_length]; split <;> omega
theorem getN_range (l : List UInt8) (at_ : Int) (n : Nat) : 0 ≤ getN l at_ n ∧ getN l at_ n < 256 ^ n := by
  have h := num_range (cutL l at_ n)
  refine ⟨h.1, Int.lt_of_lt_of_le h.2 ?_⟩
  have h1 := cut_small l at_ n
  have h2 : (256 : Nat) ^ (cutL l at_ n).length ≤ 256 ^ n := Nat.pow_le_pow_right (by omega) h1
  have h3 : ((256 ^ (cutL l at_ n).length : Nat) : Int) ≤ ((256 ^ n : Nat) : Int) := Int.ofNat_le.2 h2
  rw [Int.natCast_pow, Int.natCast_pow] at h3
  exact h3
theorem get16 {k : Nat} (hk : 4 ≤ k) (s : ByteArray) (at_ : Int) (hs : s.size ≤ 4611686018427387904) (ha : -9223372036854775808 ≤ at_ ∧ at_ ≤ 9223372036854775807) : octet_Get16.f k s at_ = some (getN (L s) at_ 2, cutB (L s) at_ 2) := by
  have hr : 0 ≤ getN (L s) at_ 2 ∧ getN (L s) at_ 2 < 256 ^ 2 := getN_range (L s) at_ 2
  have hc : (cutL (L s) at_ 2).length ≤ 2 := cut_small (L s) at_ 2
  unfold octet_Get16.f octet_get_uint16.f
  rw [cut s at_ 2 hs ha (by omega)]
  simp only [Option.bind_some]
  rw [conv _ (by rw [size_B]; omega)]
  simp only [Option.bind_some]
  rw [bytesOf_L, L_B, List.length_map]
  rw [show ((0 : Int)) = ((0 : Nat) : Int) from rfl]
  rw [loop16 _ _ (by omega) _ k 0 ((0 : Nat) : Int) rfl (by omega) (by omega) (by omega) (by omega)]
  simp only [Option.bind_some, List.drop_zero]
  rw [show (((0 : Nat) : Int)) = (0 : Int) % 65536 from rfl, fold_mod]
  refine congrArg some (Prod.ext ?_ rfl)
  show (num (cutL (L s) at_ 2)) % 65536 = getN (L s) at_ 2
  unfold getN at hr ⊢
  exact Int.emod_eq_of_lt hr.1 (by simpa using hr.2)
theorem get32 {k : Nat} (hk : 6 ≤ k) (s : ByteArray) (at_ : Int) (hs : s.size ≤ 4611686018427387904) (ha : -9223372036854775808 ≤ at_ ∧ at_ ≤ 9223372036854775807) : octet_Get32.f k s at_ = some (getN (L s) at_ 4, cutB (L s) at_ 4) := by
  have hr : 0 ≤ getN (L s) at_ 4 ∧ getN (L s) at_ 4 < 256 ^ 4 := getN_range (L s) at_ 4
  have hc : (cutL (L s) at_ 4).length ≤ 4 := cut_small (L s) at_ 4
  unfold octet_Get32.f octet_get_uint32.f
  rw [cut s at_ 4 hs ha (by omega)]
  simp only [Option.bind_some]
  rw [conv _ (by rw [size_B]; omega)]
  simp only [Option.bind_some]
  rw [bytesOf_L, L_B, List.length_map]
  rw [show ((0 : Int)) = ((0 : Nat) : Int) from rfl]
  rw [loop32 _ _ (by omega) _ k 0 ((0 : Nat) : Int) rfl (by omega) (by omega) (by omega) (by omega)]
  simp only [Option.bind_some, List.drop_zero]
  rw [show (((0 : Nat) : Int)) = (0 : Int) % 4294967296 from rfl, fold_mod]
  refine congrArg some (Prod.ext ?_ rfl)
  show (num (cutL (L s) at_ 4)) % 4294967296 = getN (L s) at_ 4
  unfold getN at hr ⊢
  exact Int.emod_eq_of_lt hr.1 (by simpa using hr.2)
theorem get64 {k : Nat} (hk : 10 ≤ k) (s : ByteArray) (at_ : Int) (hs : s.size ≤ 4611686018427387904) (ha : -9223372036854775808 ≤ at_ ∧ at_ ≤ 9223372036854775807) : octet_Get64.f k s at_ = some (getN (L s) at_ 8, cutB (L s) at_ 8) := by
  have hr : 0 ≤ getN (L s) at_ 8 ∧ getN (L s) at_ 8 < 256 ^ 8 := getN_range (L s) at_ 8
  have hc : (cutL (L s) at_ 8).length ≤ 8 := cut_small (L s) at_ 8
  unfold octet_Get64.f octet_get_uint64.f
  rw [cut s at_ 8 hs ha (by omega)]
  simp only [Option.bind_some]
  rw [conv _ (by rw [size_B]; omega)]
  simp only [Option.bind_some]
  rw [bytesOf_L, L_B, List.length_map]
  rw [show ((0 : Int)) = ((0 : Nat) : Int) from rfl]
  rw [loop64 _ _ (by omega) _ k 0 ((0 : Nat) : Int) rfl (by omega) (by omega) (by omega) (by omega)]
  simp only [Option.bind_some, List.drop_zero]
  rw [show (((0 : Nat) : Int)) = (0 : Int) % 18446744073709551616 from rfl, fold_mod]
  refine congrArg some (Prod.ext ?_ rfl)
  show (num (cutL (L s) at_ 8)) % 18446744073709551616 = getN (L s) at_ 8
  unfold getN at hr ⊢
  exact Int.emod_eq_of_lt hr.1 (by simpa using hr.2)

theorem Put16 {k : Nat} (hk : 4 ≤ k) (a : Int) (h0 : 0 ≤ a) (h1 : a < 65536) : octet_Put16.f k a = some (B (be2 a)) := by
  unfold octet_Put16.f; rw [put16 hk a h0 h1]; rfl
theorem Put32 {k : Nat} (hk : 6 ≤ k) (a : Int) (h0 : 0 ≤ a) (h1 : a < 4294967296) : octet_Put32.f k a = some (B (be4 a)) := by
  unfold octet_Put32.f; rw [put32 hk a h0 h1]; rfl
theorem Put64 {k : Nat} (hk : 10 ≤ k) (a : Int) (h0 : 0 ≤ a) (h1 : a < 18446744073709551616) : octet_Put64.f k a = some (B (be8 a)) := by
  unfold octet_Put64.f; rw [put64 hk a h0 h1]; rfl
theorem u16_wrap (n : Int) : IntKind.u16.wrap n = n % 65536 := by simp [IntKind.wrap, IntKind.bits, IntKind.signed]
theorem u64_wrap (n : Int) : IntKind.u64.wrap n = n % 18446744073709551616 := by simp [IntKind.wrap, IntKind.bits, IntKind.signed]
theorem be2_length (a : Int) : (be2 a).length = 2 := rfl
theorem be4_length (a : Int) : (be4 a).length = 4 := rfl
theorem be8_length (a : Int) : (be8 a).length = 8 := rfl
/-- A length of 16 bits and as many bytes. -/
def runOk (l : List UInt8) : Bool := decide (l.length ≤ 65535)
def runL (l : List UInt8) : List UInt8 := if runOk l = true then be2 l.length ++ l else []
theorem run {k : Nat} (hk : 4 ≤ k) (s : ByteArray) : octet_Run.f k s = some (B (runL (L s)), runOk (L s)) := by
  unfold octet_Run.f runL
  have hl : ((L s).length : Int) = s.size := by rw [size_L]
  by_cases h : (s.size : Int) > 65535
  · have hb : runOk (L s) = false := by simp only [runOk, decide_eq_false_iff_not]; omega
    rw [if_pos h, hb]; rfl
  · have hb : runOk (L s) = true := by simp only [runOk, decide_eq_true_eq]; omega
    rw [if_neg h, hb, if_pos rfl, u16_wrap, Int.emod_eq_of_lt (by omega) (by omega), Put16 hk _ (by omega) (by omega)]
    simp only [Option.bind_some]
    rw [if_pos (by rw [size_B, be2_length]; omega), hl]
    refine congrArg some (Prod.ext ?_ rfl)
    apply ext_L
    rw [L_append, L_B, L_B]
/-- The run at a place: its bytes, the place behind it. -/
def takeOk (l : List UInt8) (at_ : Int) : Bool := cutB l at_ 2 && cutB l (at_ + 2) (getN l at_ 2)
def takeL (l : List UInt8) (at_ : Int) : List UInt8 := if takeOk l at_ = true then cutL l (at_ + 2) (getN l at_ 2) else []
def takeTo (l : List UInt8) (at_ : Int) : Int := if takeOk l at_ = true then at_ + 2 + getN l at_ 2 else 0
theorem cutB_bound {l : List UInt8} {at_ n : Int} (h : cutB l at_ n = true) : 0 ≤ at_ ∧ 0 ≤ n ∧ at_ + n ≤ l.length := by simpa [cutB] using h
theorem takeRun {k : Nat} (hk : 4 ≤ k) (s : ByteArray) (at_ : Int) (hs : s.size ≤ 4611686018427387904) (ha : -9223372036854775808 ≤ at_ ∧ at_ ≤ 9223372036854775807) :
    octet_TakeRun.f k s at_ = some (B (takeL (L s) at_), takeTo (L s) at_, takeOk (L s) at_) := by
  have hl : ((L s).length : Int) = s.size := by rw [size_L]
  have hr : 0 ≤ getN (L s) at_ 2 ∧ getN (L s) at_ 2 < 256 ^ 2 := getN_range (L s) at_ 2
  have hr2 : getN (L s) at_ 2 < 65536 := by simpa using hr.2
  unfold octet_TakeRun.f takeL takeTo takeOk
  rw [get16 hk s at_ hs ha]
  simp only [Option.bind_some]
  by_cases h1 : cutB (L s) at_ 2 = true
  · have hb := cutB_bound h1
    rw [if_pos h1, h1, w64 (n := at_ + 2) (by omega), w64 (n := getN (L s) at_ 2) (by omega), cut s _ _ hs (by omega) (by omega)]
    simp only [Option.bind_some, Bool.true_and]
    by_cases h2 : cutB (L s) (at_ + 2) (getN (L s) at_ 2) = true
    · have hb2 := cutB_bound h2
      rw [if_pos h2, h2, if_pos rfl, if_pos rfl, size_B, cutL_length, h2, if_pos rfl]
      refine congrArg some (Prod.ext rfl (Prod.ext ?_ rfl))
      show wrap64 _ = at_ + 2 + getN (L s) at_ 2
      rw [w64 (by omega)]
      omega
    · replace h2 := Bool.eq_false_iff.mpr h2
      rw [h2, if_neg (by decide), if_neg (by decide), if_neg (by decide)]; rfl
  · replace h1 := Bool.eq_false_iff.mpr h1
    rw [h1, if_neg (by decide)]
    rfl
theorem putAddr {k : Nat} (hk : 10 ≤ k) (a b : Int) (h0 : 0 ≤ a ∧ a < 18446744073709551616) (h1 : 0 ≤ b ∧ b < 18446744073709551616) : octet_PutAddr.f k a b = some (B (be8 a ++ be8 b)) := by
  unfold octet_PutAddr.f
  rw [Put64 hk a h0.1 h0.2, Put64 hk b h1.1 h1.2]
  simp only [Option.bind_some]
  rw [if_pos (by rw [size_B, size_B, be8_length, be8_length]; omega), B_append]
theorem getAddr {k : Nat} (hk : 10 ≤ k) (s : ByteArray) (at_ : Int) (hs : s.size ≤ 4611686018427387904) (ha : -9223372036854775808 ≤ at_ ∧ at_ ≤ 9223372036854775807) :
    octet_GetAddr.f k s at_ = some (if cutB (L s) at_ 16 = true then (getN (cutL (L s) at_ 16) 0 8, getN (cutL (L s) at_ 16) 8 8, true) else (0, 0, false)) := by
  unfold octet_GetAddr.f
  rw [cut s at_ 16 hs ha (by omega)]
  simp only [Option.bind_some]
  by_cases h : cutB (L s) at_ 16 = true
  · have hc : (cutL (L s) at_ 16).length ≤ 16 := cut_small (L s) at_ 16
    rw [if_pos h, if_pos h, get64 hk _ 0 (by rw [size_B]; omega) (by omega), get64 hk _ 8 (by rw [size_B]; omega) (by omega)]
    rfl
  · rw [if_neg h, if_neg h]
theorem cutB_mid (a w s : List UInt8) (n : Int) (hn : n = w.length) : cutB (a ++ w ++ s) (a.length : Int) n = true := by
  simp only [cutB, decide_eq_true_eq, List.length_append]; omega
theorem cutL_mid (a w s : List UInt8) (n : Int) (hn : n = w.length) : cutL (a ++ w ++ s) (a.length : Int) n = w := by
  unfold cutL
  rw [cutB_mid a w s n hn, if_pos rfl, hn, Int.toNat_natCast, Int.toNat_natCast, List.append_assoc, List.drop_left, List.take_left]
theorem getN_mid (a w s : List UInt8) (n : Int) (hn : n = w.length) : getN (a ++ w ++ s) (a.length : Int) n = num w := by
  unfold getN; rw [cutL_mid a w s n hn]
theorem getN_head (w s : List UInt8) (n : Int) (hn : n = w.length) : getN (w ++ s) 0 n = num w := getN_mid [] w s n hn
end Go.Proofs.Ythadapbekmmgpaa.Oct


set_option linter.unusedVariables false
set_option linter.unusedSimpArgs false
namespace Go.Proofs.Ythadapbekmmgpaa.O6
open Go Go.RowKit Go.Proofs.YthadapbekmmgpaaW.PrintWords Go.Proofs.YthadapbekmmgpaaW.PrintLast Go.Proofs.YthadapbekmmgpaaW.PrintMore Go.Proofs.Ythadapbekmmgpaa.X Go.Proofs.Ythadapbekmmgpaa.Oct
abbrev NIL : ByteArray := ⟨#[]⟩
/-- Options read one behind the other. -/
def prs (l : List UInt8) : Nat → List S42 → Int → List S42 × Int
  | 0, acc, _ => (acc, 0)
  | d + 1, acc, i => if i < l.length then (if cutB l i 2 = true ∧ takeOk l (i + 2) = true then (if 128 ≤ acc.length then ([], 6) else prs l d (acc ++ [⟨getN l i 2, B (takeL l (i + 2))⟩]) (takeTo l (i + 2))) else ([], 3)) else (acc, 0)
theorem take_bound {l : List UInt8} {i : Int} (h : takeOk l (i + 2) = true) : i + 4 ≤ takeTo l (i + 2) ∧ takeTo l (i + 2) ≤ l.length := by
  have hr := getN_range l (i + 2) 2
  unfold takeTo
  rw [if_pos h]
  unfold takeOk at h
  rw [Bool.and_eq_true] at h
  have := cutB_bound h.2
  omega
theorem parse_go (s : ByteArray) (hs : s.size ≤ 4611686018427387904) (d : Nat) : ∀ (k : Nat) (acc : List S42) (i : Int), 0 ≤ i → i ≤ s.size → (s.size : Int) - i < d → 2 * (129 - acc.length) + 20 ≤ k → acc.length ≤ 128 →
    opt6_Parse.l0 k s acc i = some (prs (L s) d acc i) := by
  have hsz : ((L s).length : Int) = s.size := by rw [size_L]
  induction d with
  | zero => intro k acc i h0 h1 hd; omega
  | succ d ih =>
    intro k acc i h0 h1 hd hk hacc
    obtain ⟨k, rfl⟩ : ∃ m, k = m + 2 := ⟨k - 2, by omega⟩
    rw [opt6_Parse.l0, prs]
    by_cases hlt : i < (s.size : Int)
    · rw [if_pos hlt, if_pos (by rw [hsz]; exact hlt), get16 (by omega) s i hs (by omega), Option.bind_some, w64 (n := i + 2) (by omega), takeRun (by omega) s (i + 2) hs (by omega), Option.bind_some]
      dsimp only
      have hj : ∀ b, opt6_Parse.j1 (k + 1) s acc (getN (L s) i 2) (B (takeL (L s) (i + 2))) (takeTo (L s) (i + 2)) b = if b = true then some (([] : List S42), 3) else if 128 ≤ acc.length then some ([], 6) else opt6_Parse.l0 k s (acc ++ [⟨getN (L s) i 2, B (takeL (L s) (i + 2))⟩]) (takeTo (L s) (i + 2)) := by
        intro b
        rw [opt6_Parse.j1]
        by_cases hb : b = true
        · rw [if_pos hb, if_pos hb]
        · rw [if_neg hb, if_neg hb]
          by_cases h128 : 128 ≤ acc.length
          · rw [if_pos (by omega), if_pos h128]
          · rw [if_neg (by omega), if_neg h128, if_pos (by omega)]
      by_cases hc : cutB (L s) i 2 = true
      · rw [if_pos hc, hj]
        by_cases ht : takeOk (L s) (i + 2) = true
        · rw [if_neg (by rw [ht]; decide), if_pos (show cutB (L s) i 2 = true ∧ takeOk (L s) (i + 2) = true from ⟨hc, ht⟩)]
          have hb := take_bound ht
          by_cases h128 : 128 ≤ acc.length
          · rw [if_pos h128, if_pos h128]
          · rw [if_neg h128, if_neg h128]
            exact ih k _ _ (by omega) (by omega) (by omega) (by rw [List.length_append, List.length_singleton]; omega) (by rw [List.length_append, List.length_singleton]; omega)
        · rw [if_pos (by rw [Bool.eq_false_iff.2 ht]; rfl), if_neg (fun h => ht h.2)]
      · rw [if_neg hc, hj, if_pos rfl, if_neg (fun h => hc h.1)]
    · rw [if_neg hlt, if_neg (by rw [hsz]; exact hlt)]
/-- What stands in what was read: runs, and numbers of 16 bits. -/
def okO (x : S42) : Prop := x.f1.size ≤ 65535 ∧ 0 ≤ x.f0 ∧ x.f0 < 65536
theorem takeL_small (l : List UInt8) (i : Int) : (takeL l i).length ≤ 65535 := by
  have hr := getN_range l i 2
  have hr2 : getN l i 2 < 65536 := by simpa using hr.2
  unfold takeL
  split
  · rw [cutL_length]; split <;> omega
  · exact Nat.zero_le _
theorem prs_ok_ (l : List UInt8) (d : Nat) : ∀ (acc : List S42) (i : Int) (r : List S42 × Int), acc.length ≤ 128 → (∀ x ∈ acc, okO x) → prs l d acc i = r → (∀ x ∈ r.1, okO x) ∧ r.1.length ≤ 128 := by
  induction d with
  | zero => intro acc i r hl h e; rw [prs] at e; subst e; exact ⟨h, hl⟩
  | succ d ih =>
    intro acc i r hl h e
    rw [prs] at e
    by_cases h1 : i < (l.length : Int)
    · rw [if_pos h1] at e
      by_cases h2 : cutB l i 2 = true ∧ takeOk l (i + 2) = true
      · rw [if_pos h2] at e
        by_cases h3 : 128 ≤ acc.length
        · rw [if_pos h3] at e; subst e; exact ⟨fun x hx => (by cases hx), Nat.zero_le _⟩
        · rw [if_neg h3] at e
          refine ih _ _ r (by rw [List.length_append, List.length_singleton]; omega) (fun x hx => ?_) e
          rcases List.mem_append.1 hx with hx | hx
          · exact h x hx
          · obtain rfl := List.mem_singleton.1 hx
            have hr := getN_range l i 2
            exact ⟨takeL_small _ _, hr.1, by simpa using hr.2⟩
      · rw [if_neg h2] at e; subst e; exact ⟨fun x hx => (by cases hx), Nat.zero_le _⟩
    · rw [if_neg h1] at e; subst e; exact ⟨h, hl⟩
theorem prs_ok (l : List UInt8) (d : Nat) (acc : List S42) (i : Int) (hl : acc.length ≤ 128) (h : ∀ x ∈ acc, okO x) : (∀ x ∈ (prs l d acc i).1, okO x) ∧ (prs l d acc i).1.length ≤ 128 := prs_ok_ l d acc i _ hl h rfl
def emOk (zs : List S42) : Bool := zs.all fun x => runOk (L x.f1)
def emL : List S42 → List UInt8
  | [] => []
  | x :: zs => (be2 x.f0 ++ runL (L x.f1)) ++ emL zs
def okF (x : S42) : Prop := 0 ≤ x.f0 ∧ x.f0 < 65536
theorem runL_len (l : List UInt8) : (runL l).length ≤ 65537 := by
  unfold runL
  split
  · rename_i h
    simp only [runOk, decide_eq_true_eq] at h
    rw [List.length_append, be2_length]; omega
  · exact Nat.zero_le _
theorem emL_len : ∀ zs : List S42, (emL zs).length ≤ 65539 * zs.length
  | [] => Nat.le_refl _
  | x :: zs => by
    have := emL_len zs
    have := runL_len (L x.f1)
    rw [emL, List.length_append, List.length_append, be2_length, List.length_cons]
    omega
theorem emit_l : ∀ (zs : List S42) (acc : ByteArray), (∀ x ∈ zs, okF x) → acc.size + 65539 * zs.length ≤ 140737488355328 → opt6_Emit.l zs acc = some (if emOk zs = true then (acc ++ B (emL zs), 0) else (NIL, 130))
  | [], acc, _, _ => by
    rw [opt6_Emit.l]
    refine congrArg some (Prod.ext ?_ rfl)
    apply ext_L
    show L acc = L (acc ++ B [])
    rw [L_append, L_B, List.append_nil]
  | x :: zs, acc, hz, hl => by
    have hx := hz x List.mem_cons_self
    rw [List.length_cons] at hl
    rw [opt6_Emit.l, run (by decide) x.f1, Option.bind_some]
    dsimp only
    cases hr : runOk (L x.f1) with
    | false =>
      have he : emOk (x :: zs) = false := by unfold emOk; rw [List.all_cons, hr]; rfl
      rw [if_neg (by decide), he]
      rfl
    | true =>
      have he : emOk (x :: zs) = emOk zs := by unfold emOk; rw [List.all_cons, hr, Bool.true_and]
      have hb := runL_len (L x.f1)
      rw [if_pos rfl, Put16 (by decide) x.f0 hx.1 hx.2, Option.bind_some, if_pos (by rw [size_B, size_B, be2_length]; omega), emit_l zs _ (fun y hy => hz y (List.mem_cons_of_mem _ hy)) (by rw [ByteArray.size_append, ByteArray.size_append, size_B, size_B, be2_length]; omega), he]
      by_cases h : emOk zs = true
      · rw [if_pos h, if_pos h, emL]
        refine congrArg some (Prod.ext ?_ rfl)
        apply ext_L
        simp only [L_append, L_B, List.append_assoc]
      · rw [if_neg h, if_neg h]
theorem emit_eq (zs : List S42) (hz : ∀ x ∈ zs, okF x) (hl : zs.length ≤ 128) : opt6_Emit.f zs = some (if emOk zs = true then (B (emL zs), 0) else (NIL, 130)) := by
  unfold opt6_Emit.f
  rw [if_neg (by omega), emit_l zs _ hz (by show 0 + _ ≤ _; omega)]
  by_cases h : emOk zs = true
  · rw [if_pos h, if_pos h]
    refine congrArg some (Prod.ext ?_ rfl)
    apply ext_L
    rw [L_append, L_B]
    rfl
  · rw [if_neg h, if_neg h]
theorem drop_at (zs : List S42) (i : Nat) (h : i < zs.length) : zs.drop i = rd_T42 zs (i : Int) :: zs.drop (i + 1) := by
  rw [List.drop_eq_getElem_cons h]
  simp [rd_T42, List.getD_eq_getElem?_getD, List.getElem?_eq_getElem h]
theorem byte_range (c : UInt8) : -9223372036854775808 ≤ (c.toNat : Int) ∧ (c.toNat : Int) ≤ 9223372036854775807 := by have := c.toNat_lt; omega
theorem bt_getD (s : ByteArray) (i : Nat) (h : i < s.size) : bt s (i : Int) = (((L s).getD i 0).toNat : Int) := by
  rw [bt_L s i (by rw [← size_L]; exact h), List.getD_eq_getElem?_getD, List.getElem?_eq_getElem (by rw [← size_L]; exact h)]
  rfl
/-- All options of bytes. -/
def opts (l : List UInt8) : List S42 × Int := prs l (l.length + 1) [] 0
theorem parse_eq (s : ByteArray) (hs : s.size ≤ 4611686018427387904) (k : Nat) (hk : 300 ≤ k) : opt6_Parse.f k s = some (opts (L s)) := by
  unfold opt6_Parse.f opts
  rw [parse_go s hs (s.size + 1) k [] 0 (by omega) (by omega) (by omega) (by simp; omega) (by decide), size_L]
theorem opts_ok (l : List UInt8) : (∀ x ∈ (opts l).1, okO x) ∧ (opts l).1.length ≤ 128 := prs_ok l _ [] 0 (by decide) (fun x h => by cases h)
theorem extract_from (s : ByteArray) (n : Nat) : L (s.extract n s.size) = (L s).drop n := by
  rw [L_extract, List.take_of_length_le (by rw [List.length_drop, size_L]; omega)]
theorem getStatus_eq (s : ByteArray) (hs : s.size ≤ 4611686018427387904) (k : Nat) (hk : 10 ≤ k) : opt6_GetStatus.f k s = some (if cutB (L s) 0 2 = true then (getN (L s) 0 2, true) else (-1, false)) := by
  unfold opt6_GetStatus.f
  rw [get16 (by omega) s 0 hs (by omega), Option.bind_some]
  dsimp only
  by_cases h : cutB (L s) 0 2 = true
  · have hr : 0 ≤ getN (L s) 0 2 ∧ getN (L s) 0 2 < 65536 := by have := getN_range (L s) 0 2; simpa using this
    rw [if_pos h, if_pos h, w64 (by omega)]
  · rw [if_neg h, if_neg h]
theorem isCode_eq (c : Int) : opt6_isCode.f c = some (decide (-1 ≤ c ∧ c ≤ 65535)) := by
  unfold opt6_isCode.f
  by_cases h : c ≥ -1
  · rw [if_pos h]
    by_cases h2 : c ≤ 65535
    · rw [decide_eq_true h2, decide_eq_true (show -1 ≤ c ∧ c ≤ 65535 from ⟨h, h2⟩)]
    · rw [decide_eq_false h2, decide_eq_false (fun q => h2 q.2)]
  · rw [if_neg h, decide_eq_false (fun q => h q.1)]
/-- A status's data. -/
def stD (c : Int) : List UInt8 := if 0 ≤ c ∧ c ≤ 65535 then be2 c else []
theorem putStatus_eq (c : Int) (k : Nat) (hk : 10 ≤ k) : opt6_PutStatus.f k c = some (B (stD c)) := by
  unfold opt6_PutStatus.f stD
  by_cases h1 : c = -1
  · rw [if_pos h1, if_neg (by omega)]
    rfl
  · rw [if_neg h1, isCode_eq, Option.bind_some]
    by_cases h2 : -1 ≤ c ∧ c ≤ 65535
    · rw [if_pos (decide_eq_true h2), u16_wrap, if_pos (by omega), Int.emod_eq_of_lt (by omega) (by omega), Put16 (by omega) c (by omega) (by omega), Option.bind_some]
    · rw [if_neg (by simpa using h2), if_neg (by omega)]
      rfl
end Go.Proofs.Ythadapbekmmgpaa.O6


namespace Go.Proofs.Ythadapbekmmgpaa.Pre
/-- A's block of 2^k numbers begins at this number. -/
def clip (k A : Nat) : Nat := A / 2 ^ k * 2 ^ k
theorem clip_le (k A : Nat) : clip k A ≤ A := Nat.div_mul_le_self A _
/-- One bit more. -/
theorem clip_bit (j A : Nat) : clip j A = clip (j + 1) A + A / 2 ^ j % 2 * 2 ^ j := by
  unfold clip
  rw [Nat.pow_succ, ← Nat.div_div_eq_div_mul, Nat.mul_comm (2 ^ j) 2, ← Nat.mul_assoc, ← Nat.add_mul]
  congr 1
  omega
theorem or_bit (j A : Nat) : clip (j + 1) A ||| 2 ^ j = clip (j + 1) A + 2 ^ j := by
  unfold clip
  have h := Nat.shiftLeft_add_eq_or_of_lt (Nat.pow_lt_pow_right (a := 2) (by decide) (Nat.lt_succ_self j)) (A / 2 ^ (j + 1))
  rw [Nat.shiftLeft_eq] at h
  exact h.symm
/-- The two halves of a number of 128 bits. -/
def W (hi lo : Nat) : Nat := hi * 18446744073709551616 + lo
theorem clip_high (n hi lo : Nat) (hl : lo < 18446744073709551616) : clip (n + 64) (W hi lo) = W (clip n hi) 0 := by
  unfold clip W
  rw [Nat.pow_add, Nat.mul_comm (2 ^ n), ← Nat.div_div_eq_div_mul, show (2 : Nat) ^ 64 = 18446744073709551616 by decide, show (hi * 18446744073709551616 + lo) / 18446744073709551616 = hi by omega, Nat.mul_comm 18446744073709551616, ← Nat.mul_assoc, Nat.add_zero]
theorem clip_low (n hi lo : Nat) (hn : n ≤ 64) : clip n (W hi lo) = W hi (clip n lo) := by
  unfold clip W
  obtain ⟨d, hd⟩ := Nat.le.dest hn
  have e : (18446744073709551616 : Nat) = 2 ^ d * 2 ^ n := by rw [← Nat.pow_add, Nat.add_comm d, hd]
  rw [e, ← Nat.mul_assoc, Nat.add_comm _ lo, Nat.add_mul_div_right _ _ (Nat.two_pow_pos n), Nat.add_mul]
  omega
theorem W_inj {a b c d : Nat} (hb : b < 18446744073709551616) (hd : d < 18446744073709551616) (h : W a b = W c d) : a = c ∧ b = d := by unfold W at h; omega
end Go.Proofs.Ythadapbekmmgpaa.Pre


set_option linter.unusedVariables false
set_option linter.unusedSimpArgs false
namespace Go.Proofs.Ythadapbekmmgpaa.Adr
open Go.RowKit Go.Proofs.YthadapbekmmgpaaW.PrintWords Go.Proofs.YthadapbekmmgpaaW.PrintLast Go.Proofs.YthadapbekmmgpaaW.PrintMore Go.Proofs.Ythadapbekmmgpaa.X Go.Proofs.Ythadapbekmmgpaa.Pre

theorem u64_wrap (n : Int) : IntKind.u64.wrap n = n % 18446744073709551616 := by simp [IntKind.wrap, IntKind.bits, IntKind.signed]
theorem shr_nat (h m : Nat) (hm : m ≤ 64) : shr .u64 (h : Int) (m : Int) = ((h / 2 ^ m : Nat) : Int) := by
  unfold shr
  rw [Int.toNat_natCast, show min m IntKind.u64.bits = m from Nat.min_eq_left hm]
  norm_cast
theorem shl_nat (h m : Nat) (hm : m ≤ 64) : shl .u64 (h : Int) (m : Int) = ((h * 2 ^ m % 18446744073709551616 : Nat) : Int) := by
  unfold shl
  rw [Int.toNat_natCast, show min m IntKind.u64.bits = m from Nat.min_eq_left hm, u64_wrap, Int.natCast_emod, Int.natCast_mul, Int.natCast_pow]
  rfl
theorem or_add (j x y : Nat) (hx : x % 2 ^ j = 0) (hy : y < 2 ^ j) : x ||| y = x + y := by
  have h := Nat.shiftLeft_add_eq_or_of_lt hy (x / 2 ^ j)
  rw [Nat.shiftLeft_eq, Nat.div_mul_cancel (Nat.dvd_of_mod_eq_zero hx)] at h
  exact h.symm
theorem pow64 (m : Nat) (hm : m ≤ 64) : 2 ^ m * 2 ^ (64 - m) = 18446744073709551616 := by
  rw [← Nat.pow_add, show m + (64 - m) = 64 by omega]
/-- The lower half of a number turned down by m. -/
def lowd (m h l : Nat) : Nat := (h % 2 ^ m) * 2 ^ (64 - m) + l / 2 ^ m
theorem low_or (m h l : Nat) (hm : m ≤ 64) (hl : l < 18446744073709551616) : (l / 2 ^ m) ||| (h * 2 ^ (64 - m) % 18446744073709551616) = lowd m h l := by
  have hp := pow64 m hm
  have h1 : h * 2 ^ (64 - m) % 18446744073709551616 = (h % 2 ^ m) * 2 ^ (64 - m) := by
    rw [← hp, Nat.mul_mod_mul_right]
  have h2 : l / 2 ^ m < 2 ^ (64 - m) := by
    rw [Nat.div_lt_iff_lt_mul (Nat.two_pow_pos m), Nat.mul_comm, hp]; exact hl
  rw [h1, Nat.or_comm, or_add (64 - m) _ _ (Nat.mul_mod_left _ _) h2]
  rfl
theorem lowd_lt (m h l : Nat) (hm : m ≤ 64) (hl : l < 18446744073709551616) : lowd m h l < 18446744073709551616 := by
  have hp := pow64 m hm
  have h2 : l / 2 ^ m < 2 ^ (64 - m) := by
    rw [Nat.div_lt_iff_lt_mul (Nat.two_pow_pos m), Nat.mul_comm, hp]; exact hl
  have h3 : h % 2 ^ m + 1 ≤ 2 ^ m := Nat.mod_lt _ (Nat.two_pow_pos m)
  have h4 := Nat.mul_le_mul_right (2 ^ (64 - m)) h3
  rw [hp, Nat.add_mul, Nat.one_mul] at h4
  unfold lowd
  omega
theorem down_small {n : Int} (h l : Nat) (hn : n ≤ 0) : addr_Down.f h l n = some ((h : Int), (l : Int)) := by
  unfold addr_Down.f; rw [if_pos hn]
theorem down_mid (m h l : Nat) (h0 : 0 < m) (hm : m < 64) (hh : h < 18446744073709551616) (hl : l < 18446744073709551616) : addr_Down.f h l (m : Int) = some (((h / 2 ^ m : Nat) : Int), ((lowd m h l : Nat) : Int)) := by
  unfold addr_Down.f
  have hw : wrap64 (64 - (m : Int)) = ((64 - m : Nat) : Int) := by unfold wrap64; omega
  have hd : l / 2 ^ m < 18446744073709551616 := Nat.lt_of_le_of_lt (Nat.div_le_self _ _) hl
  rw [if_neg (by omega), if_neg (by omega), if_pos (by omega), hw, if_pos (by omega), shr_nat _ _ (by omega), shr_nat _ _ (by omega), shl_nat _ _ (by omega), u64_or_nat _ _ hd (Nat.mod_lt _ (by decide)), low_or m h l (by omega) hl]
theorem down_high (m h l : Nat) (hm : 64 ≤ m) (hm2 : m ≤ 128) : addr_Down.f h l (m : Int) = some (0, ((h / 2 ^ (m - 64) : Nat) : Int)) := by
  unfold addr_Down.f
  have hw : wrap64 ((m : Int) - 64) = ((m - 64 : Nat) : Int) := by unfold wrap64; omega
  rw [if_neg (by omega), if_pos (by omega), hw, if_pos (by omega), shr_nat _ _ (by omega)]
theorem up_small {n : Int} (h l : Nat) (hn : n ≤ 0) : addr_Up.f h l n = some ((h : Int), (l : Int)) := by
  unfold addr_Up.f; rw [if_pos hn]
theorem up_mid (m h l : Nat) (h0 : 0 < m) (hm : m < 64) (hl : l < 18446744073709551616) : addr_Up.f h l (m : Int) = some ((((h * 2 ^ m % 18446744073709551616) ||| (l / 2 ^ (64 - m)) : Nat) : Int), ((l * 2 ^ m % 18446744073709551616 : Nat) : Int)) := by
  unfold addr_Up.f
  have hw : wrap64 (64 - (m : Int)) = ((64 - m : Nat) : Int) := by unfold wrap64; omega
  have hd : l / 2 ^ (64 - m) < 18446744073709551616 := Nat.lt_of_le_of_lt (Nat.div_le_self _ _) hl
  rw [if_neg (by omega), if_neg (by omega), if_pos (by omega), hw, if_pos (by omega), shr_nat _ _ (by omega), shl_nat _ _ (by omega), shl_nat _ _ (by omega), u64_or_nat _ _ (Nat.mod_lt _ (by decide)) hd]
theorem up_high (m h l : Nat) (hm : 64 ≤ m) (hm2 : m ≤ 128) : addr_Up.f h l (m : Int) = some (((l * 2 ^ (m - 64) % 18446744073709551616 : Nat) : Int), 0) := by
  unfold addr_Up.f
  have hw : wrap64 ((m : Int) - 64) = ((m - 64 : Nat) : Int) := by unfold wrap64; omega
  rw [if_neg (by omega), if_pos (by omega), hw, if_pos (by omega), shl_nat _ _ (by omega)]
/-- What a clipped number's halves are. -/
def ch (m h : Nat) : Nat := if 64 ≤ m then clip (m - 64) h else h
def cl (m l : Nat) : Nat := if 64 ≤ m then 0 else clip m l
theorem cW (m h l : Nat) (hm : m ≤ 128) (hl : l < 18446744073709551616) : W (ch m h) (cl m l) = clip m (W h l) := by
  unfold ch cl
  by_cases h1 : 64 ≤ m
  · rw [if_pos h1, if_pos h1]
    obtain ⟨d, rfl⟩ : ∃ d, m = d + 64 := ⟨m - 64, by omega⟩
    rw [clip_high d h l hl, Nat.add_sub_cancel]
  · rw [if_neg h1, if_neg h1, clip_low m h l (by omega)]
theorem cl_lt (m l : Nat) (hl : l < 18446744073709551616) : cl m l < 18446744073709551616 := by
  unfold cl; split
  · decide
  · exact Nat.lt_of_le_of_lt (clip_le _ _) hl
theorem updown (m h l : Nat) (hm : m ≤ 128) (hh : h < 18446744073709551616) (hl : l < 18446744073709551616) :
    ((addr_Down.f h l (m : Int)).bind fun b => (addr_Up.f b.1 b.2 (m : Int)).bind fun c => some (c.1, c.2)) = some (((ch m h : Nat) : Int), ((cl m l : Nat) : Int)) := by
  unfold ch cl
  by_cases h1 : 64 ≤ m
  · rw [if_pos h1, if_pos h1, down_high m h l h1 hm, Option.bind_some]
    show ((addr_Up.f ((0 : Nat) : Int) _ _).bind _) = _
    rw [up_high m 0 _ h1 hm, Option.bind_some, Nat.mod_eq_of_lt (Nat.lt_of_le_of_lt (Nat.div_mul_le_self _ _) hh)]
    rfl
  · rw [if_neg h1, if_neg h1]
    by_cases h0 : m = 0
    · subst h0
      rw [down_small h l (by decide), Option.bind_some]
      show ((addr_Up.f (h : Int) (l : Int) _).bind _) = _
      rw [up_small h l (by decide), Option.bind_some]
      simp [clip]
    · rw [down_mid m h l (by omega) (by omega) hh hl, Option.bind_some]
      show ((addr_Up.f ((h / 2 ^ m : Nat) : Int) ((lowd m h l : Nat) : Int) _).bind _) = _
      have hp := pow64 m (by omega)
      have h2 : l / 2 ^ m < 2 ^ (64 - m) := by
        rw [Nat.div_lt_iff_lt_mul (Nat.two_pow_pos m), Nat.mul_comm, hp]; exact hl
      have e1 : lowd m h l / 2 ^ (64 - m) = h % 2 ^ m := by
        unfold lowd
        rw [Nat.add_comm, Nat.add_mul_div_right _ _ (Nat.two_pow_pos _), Nat.div_eq_of_lt h2, Nat.zero_add]
      have e2 : lowd m h l * 2 ^ m % 18446744073709551616 = clip m l := by
        unfold lowd clip
        rw [Nat.add_mul, Nat.mul_assoc, Nat.mul_comm (2 ^ (64 - m)), hp, Nat.add_comm, Nat.add_mul_mod_self_right, Nat.mod_eq_of_lt]
        exact Nat.lt_of_le_of_lt (Nat.div_mul_le_self _ _) hl
      have e3 : h / 2 ^ m * 2 ^ m % 18446744073709551616 = h / 2 ^ m * 2 ^ m := Nat.mod_eq_of_lt (Nat.lt_of_le_of_lt (Nat.div_mul_le_self _ _) hh)
      have e4 : h / 2 ^ m * 2 ^ m ||| h % 2 ^ m = h := by
        rw [or_add m _ _ (Nat.mul_mod_left _ _) (Nat.mod_lt _ (Nat.two_pow_pos m)), Nat.mul_comm, Nat.div_add_mod]
      rw [up_mid m _ _ (by omega) (by omega) (lowd_lt m h l (by omega) hl), Option.bind_some, e1, e2, e3, e4]
theorem clip_eq {k : Nat} (hk : 1 ≤ k) (h l : Nat) (hh : h < 18446744073709551616) (hl : l < 18446744073709551616) (n : Int) (h0 : 0 ≤ n) (h1 : n ≤ 128) :
    addr_Clip.f k h l n = some (((ch (128 - n).toNat h : Nat) : Int), ((cl (128 - n).toNat l : Nat) : Int), n, true) := by
  obtain ⟨j, rfl⟩ : ∃ j, k = j + 1 := ⟨k - 1, by omega⟩
  unfold addr_Clip.f
  have hw : wrap64 (128 - n) = (((128 - n).toNat : Nat) : Int) := by unfold wrap64; omega
  rw [if_neg (by omega), addr_Clip.j0, decide_eq_false (by omega), if_neg (by decide), hw]
  have hu := updown (128 - n).toNat h l (by omega) hh hl
  obtain ⟨b, hb, hu⟩ := Option.bind_eq_some_iff.1 hu
  obtain ⟨c, hc, hu⟩ := Option.bind_eq_some_iff.1 hu
  simp only [Option.some.injEq, Prod.mk.injEq] at hu
  rw [hb, Option.bind_some, hc, Option.bind_some, hu.1, hu.2]
theorem clip_bad {k : Nat} (hk : 1 ≤ k) (h l n : Int) (hn : n < 0 ∨ n > 128) : addr_Clip.f k h l n = some (0, 0, 0, false) := by
  obtain ⟨j, rfl⟩ : ∃ j, k = j + 1 := ⟨k - 1, by omega⟩
  unfold addr_Clip.f
  by_cases h0 : n < 0
  · rw [if_pos h0, addr_Clip.j0, if_pos rfl]
  · rw [if_neg h0, addr_Clip.j0, decide_eq_true (by omega), if_pos rfl]
/-- A prefix: so many bits, and nothing behind them. -/
def snd (h l : Nat) (n : Int) : Prop := 0 ≤ n ∧ n ≤ 128 ∧ clip (128 - n).toNat (W h l) = W h l
instance (h l : Nat) (n : Int) : Decidable (snd h l n) := by unfold snd; infer_instance
theorem cheq (m h l : Nat) (hm : m ≤ 128) (hh : h < 18446744073709551616) (hl : l < 18446744073709551616) : (ch m h = h ∧ cl m l = l) ↔ clip m (W h l) = W h l := by
  rw [← cW m h l hm hl]
  constructor
  · rintro ⟨e1, e2⟩; rw [e1, e2]
  · intro e; exact W_inj (cl_lt m l hl) hl e
theorem sound_eq {k : Nat} (hk : 1 ≤ k) (h l : Nat) (hh : h < 18446744073709551616) (hl : l < 18446744073709551616) (n : Int) : addr_Sound.f k h l n = some (decide (snd h l n)) := by
  unfold addr_Sound.f
  by_cases hn : 0 ≤ n ∧ n ≤ 128
  · rw [clip_eq hk h l hh hl n hn.1 hn.2, Option.bind_some, if_pos rfl]
    congr 1
    have hc := cheq (128 - n).toNat h l (by omega) hh hl
    rw [Bool.eq_iff_iff]
    simp only [Bool.and_eq_true, beq_iff_eq, decide_eq_true_eq, Int.natCast_inj]
    unfold snd
    rw [← hc]
    constructor
    · rintro ⟨⟨e1, e2⟩, _⟩; exact ⟨hn.1, hn.2, e1, e2⟩
    · rintro ⟨_, _, e1, e2⟩; exact ⟨⟨e1, e2⟩, trivial⟩
  · rw [clip_bad hk _ _ n (by omega), Option.bind_some, if_neg (by decide), decide_eq_false]
    unfold snd
    omega
end Go.Proofs.Ythadapbekmmgpaa.Adr


set_option linter.unusedVariables false
set_option linter.unusedSimpArgs false
namespace Go.Proofs.Ythadapbekmmgpaa.O6
open Go Go.RowKit Go.Proofs.YthadapbekmmgpaaW.PrintWords Go.Proofs.YthadapbekmmgpaaW.PrintLast Go.Proofs.YthadapbekmmgpaaW.PrintMore Go.Proofs.Ythadapbekmmgpaa.X Go.Proofs.Ythadapbekmmgpaa.Oct Go.Proofs.Ythadapbekmmgpaa.Adr Go.Proofs.Ythadapbekmmgpaa.Pre
theorem emL_append : ∀ a b : List S42, emL (a ++ b) = emL a ++ emL b
  | [], b => rfl
  | x :: a, b => by rw [List.cons_append, emL, emL, emL_append a b]; simp only [List.append_assoc]
def okX (x : S58) : Prop := ((0 ≤ x.f0.f0.f0 ∧ x.f0.f0.f0 < 18446744073709551616) ∧ (0 ≤ x.f0.f0.f1 ∧ x.f0.f0.f1 < 18446744073709551616)) ∧ (0 ≤ x.f1 ∧ x.f1 < 4294967296) ∧ (0 ≤ x.f2 ∧ x.f2 < 4294967296)
def sd (a b n : Int) : Bool := decide (snd a.toNat b.toNat n)
theorem sd_eq {k : Nat} (hk : 1 ≤ k) (a b n : Int) (ha : 0 ≤ a ∧ a < 18446744073709551616) (hb : 0 ≤ b ∧ b < 18446744073709551616) : addr_Sound.f k a b n = some (sd a b n) := by
  have := sound_eq hk a.toNat b.toNat (by omega) (by omega) n
  rw [Int.toNat_of_nonneg ha.1, Int.toNat_of_nonneg hb.1] at this
  exact this
theorem clip_zero (A : Nat) : clip 0 A = A := by simp [clip]
theorem sd_128 (a b : Int) : sd a b 128 = true := decide_eq_true ⟨by omega, by omega, clip_zero _⟩
def cdB (c : Int) : Bool := decide (-1 ≤ c ∧ c ≤ 65535)
def inS (kind : Int) (x : S58) : Bool := cdB x.f3 && (sd x.f0.f0.f0 x.f0.f0.f1 x.f0.f1 && (kind == 4 || x.f0.f1 == 128))
def kdS (kind t1 t2 : Int) : Bool := if kind = 3 then t1 == 0 && t2 == 0 else kind == 2 || kind == 4
def sndS (kind t1 t2 : Int) (l : List S58) (code : Int) : Bool := l.all (inS kind) && (kdS kind t1 t2 && (decide (l.length ≤ 8) && cdB code))
theorem inn_eq (k : Nat) (hk : 1 ≤ k) (kind : Int) (x : S58) (hx : okX x) : inn k kind x = some (inS kind x) := by
  unfold inn inS
  rw [isCode_eq, Option.bind_some, show decide (-1 ≤ x.f3 ∧ x.f3 ≤ 65535) = cdB x.f3 from rfl]
  cases cdB x.f3 with
  | false => rfl
  | true => rw [if_pos rfl, sd_eq hk _ _ _ hx.1.1 hx.1.2]; rfl
theorem innAll_eq (k : Nat) (hk : 1 ≤ k) (kind : Int) : ∀ l : List S58, (∀ x ∈ l, okX x) → innAll k kind l = some (l.all (inS kind))
  | [], _ => rfl
  | x :: l, h => by
    rw [innAll, inn_eq k hk kind x (h x List.mem_cons_self), Option.bind_some, List.all_cons]
    cases inS kind x with
    | false => rfl
    | true => rw [if_pos rfl, innAll_eq k hk kind l (fun y hy => h y (List.mem_cons_of_mem _ hy)), Bool.true_and]
theorem tailS_eq (kind t1 t2 : Int) (n : Nat) (code : Int) : tailS kind t1 t2 n code = some (kdS kind t1 t2 && (decide (n ≤ 8) && cdB code)) := by
  unfold tailS kdS
  by_cases h3 : kind = 3
  · rw [if_pos h3, if_pos h3]
    by_cases ht : t1 = 0 ∧ t2 = 0
    · rw [if_pos ht, isCode_eq, Option.bind_some, ht.1, ht.2]
      rfl
    · rw [if_neg ht]
      have : (t1 == 0 && t2 == 0) = false := by
        cases h : (t1 == 0 && t2 == 0)
        · rfl
        · rw [Bool.and_eq_true] at h
          exact absurd ⟨by simpa using h.1, by simpa using h.2⟩ ht
      rw [this]
      rfl
  · rw [if_neg h3, if_neg h3]
    by_cases h24 : kind = 2 ∨ kind = 4
    · rw [if_pos h24, isCode_eq, Option.bind_some]
      rcases h24 with rfl | rfl <;> rfl
    · rw [if_neg h24]
      have : (kind == 2 || kind == 4) = false := by
        cases h : (kind == 2 || kind == 4)
        · rfl
        · rw [Bool.or_eq_true] at h
          exact absurd (h.imp (fun q => by simpa using q) (fun q => by simpa using q)) h24
      rw [this]
      rfl
theorem soundK_eq (k : Nat) (hk : 1 ≤ k) (kind iaid t1 t2 : Int) (l : List S58) (code : Int) (h : ∀ x ∈ l, okX x) : soundK k kind iaid t1 t2 l code = some (sndS kind t1 t2 l code) := by
  unfold soundK sndS
  rw [innAll_eq k hk kind l h, Option.bind_some]
  cases l.all (inS kind) with
  | false => rfl
  | true => rw [if_pos rfl, tailS_eq, Bool.true_and]
theorem stD_len (c : Int) : (stD c).length ≤ 2 := by unfold stD; split; exact Nat.le_refl 2; exact Nat.zero_le 2
def stZ (c : Int) : List S42 := if c = -1 then [] else [⟨13, B (stD c)⟩]
theorem emit_one (code : Int) (h0 : 0 ≤ code ∧ code < 65536) (d : ByteArray) (hd : d.size ≤ 65535) : opt6_Emit.f [⟨code, d⟩] = some (B (emL [⟨code, d⟩]), 0) := by
  have ho : emOk [(⟨code, d⟩ : S42)] = true := by
    unfold emOk
    rw [List.all_cons, List.all_nil, Bool.and_true]
    exact decide_eq_true hd
  rw [emit_eq _ (fun x hx => by obtain rfl := List.mem_singleton.1 hx; exact h0) (by simp), if_pos ho]
theorem cat_B (parts : List ByteArray) : catS parts = B (parts.map L).flatten := by
  have : ∀ ps : List (List UInt8), Lib.join ps ([] : List UInt8) = ps.flatten := by
    intro ps
    induction ps with
    | nil => rfl
    | cons p ps ih =>
      cases ps with
      | nil => rw [Lib.join_one]; simp
      | cons q qs =>
        have h2 : Lib.join (p :: q :: qs) ([] : List UInt8) = p ++ Lib.join (q :: qs) [] := by simp [Lib.join, List.intercalate, List.intersperse]
        rw [h2, ih]; simp
  unfold catS
  rw [this]
  rfl
theorem join_len (parts : List ByteArray) : (Lib.join (parts.map (·.data.toList)) ([] : List UInt8)).length = (parts.map L).flatten.length := by
  have := congrArg ByteArray.size (cat_B parts)
  exact this
theorem option_eq (code : Int) (h0 : 0 ≤ code ∧ code < 65536) (parts : List ByteArray) (hs : (parts.map L).flatten.length ≤ 65535) : opt6_option.f code parts = some (B (emL [⟨code, B (parts.map L).flatten⟩])) := by
  unfold opt6_option.f
  rw [cat_B, emit_one code h0 (B (parts.map L).flatten) (by rw [size_B]; exact hs)]
  rfl
theorem status_eq (c : Int) (k : Nat) (hk : 10 ≤ k) : opt6_status.f k c = some (B (emL (stZ c))) := by
  unfold opt6_status.f stZ
  by_cases h : c = -1
  · rw [if_pos h, if_pos h]
    rfl
  · have hl := stD_len c
    rw [if_neg h, if_neg h, putStatus_eq c k hk, Option.bind_some, if_pos (by rw [size_B]; omega), option_eq 13 (by omega) _ (by simp [L_B]; omega)]
    simp [L_B]
def inD (kind : Int) (x : S58) : List UInt8 :=
  if kind = 4 then (be4 x.f1 ++ be4 x.f2) ++ ([b8 x.f0.f1] ++ ((be8 x.f0.f0.f0 ++ be8 x.f0.f0.f1) ++ emL (stZ x.f3))) else (be8 x.f0.f0.f0 ++ be8 x.f0.f0.f1) ++ ((be4 x.f1 ++ be4 x.f2) ++ emL (stZ x.f3))
def inO (kind : Int) (x : S58) : S42 := ⟨if kind = 4 then 26 else 5, B (inD kind x)⟩
theorem stZ_len (c : Int) : (emL (stZ c)).length ≤ 6 := by
  unfold stZ
  split
  · exact Nat.zero_le _
  · have := stD_len c
    have hr : runOk (L (B (stD c))) = true := decide_eq_true (by rw [L_B]; omega)
    rw [emL, emL, List.append_nil, List.length_append, be2_length]
    unfold runL
    rw [if_pos hr, List.length_append, be2_length, L_B]
    omega
theorem inD_len (kind : Int) (x : S58) : (inD kind x).length ≤ 31 := by
  have := stZ_len x.f3
  unfold inD
  split <;> simp only [List.length_append, be4_length, be8_length, List.length_cons, List.length_nil] <;> omega
theorem nums1 (a : Int) : strOfNums [a % 256] = B [b8 a] := by
  rw [strOfNums_B _ (by intro x hx; obtain rfl := List.mem_singleton.1 hx; omega), List.map_cons, List.map_nil, b8_mod]
theorem putOne_eq (k : Nat) (hk : 20 ≤ k) (kind : Int) (x : S58) (hx : okX x) : putOne k kind x = some (B (emL [inO kind x])) := by
  have hl := inD_len kind x
  have hst := stZ_len x.f3
  unfold putOne
  rw [Put32 (by omega) _ hx.2.1.1 hx.2.1.2, Option.bind_some, Put32 (by omega) _ hx.2.2.1 hx.2.2.2, Option.bind_some, B_append, if_pos (by rw [size_B, List.length_append, be4_length, be4_length]; omega), putAddr (by omega) _ _ hx.1.1 hx.1.2, Option.bind_some, status_eq _ k (by omega), Option.bind_some, nums1]
  unfold inO inD
  by_cases h4 : kind = 4
  · have e : ([B (be4 x.f1 ++ be4 x.f2), B [b8 x.f0.f1], B (be8 x.f0.f0.f0 ++ be8 x.f0.f0.f1), B (emL (stZ x.f3))].map L).flatten = (be4 x.f1 ++ be4 x.f2) ++ ([b8 x.f0.f1] ++ ((be8 x.f0.f0.f0 ++ be8 x.f0.f0.f1) ++ emL (stZ x.f3))) := by simp [L_B]
    have hz : ((be4 x.f1 ++ be4 x.f2) ++ ([b8 x.f0.f1] ++ ((be8 x.f0.f0.f0 ++ be8 x.f0.f0.f1) ++ emL (stZ x.f3)))).length ≤ 31 := by
      simp only [List.length_append, be4_length, be8_length, List.length_cons, List.length_nil]; omega
    rw [if_pos h4, if_pos h4, if_pos h4, join_len, e, if_pos (by omega), option_eq 26 (by omega) _ (by rw [e]; omega), e]
  · have e : ([B (be8 x.f0.f0.f0 ++ be8 x.f0.f0.f1), B (be4 x.f1 ++ be4 x.f2), B (emL (stZ x.f3))].map L).flatten = (be8 x.f0.f0.f0 ++ be8 x.f0.f0.f1) ++ ((be4 x.f1 ++ be4 x.f2) ++ emL (stZ x.f3)) := by simp [L_B]
    have hz : ((be8 x.f0.f0.f0 ++ be8 x.f0.f0.f1) ++ ((be4 x.f1 ++ be4 x.f2) ++ emL (stZ x.f3))).length ≤ 31 := by
      simp only [List.length_append, be4_length, be8_length]; omega
    rw [if_neg h4, if_neg h4, if_neg h4, join_len, e, if_pos (by omega), option_eq 5 (by omega) _ (by rw [e]; omega), e]
theorem putEach_eq (k : Nat) (hk : 20 ≤ k) (kind : Int) : ∀ (l : List S58) (acc : ByteArray), (∀ x ∈ l, okX x) → acc.size + 65539 * l.length ≤ 140737488355328 → putEach k kind l acc = some (acc ++ B (emL (l.map (inO kind))))
  | [], acc, _, _ => by
    rw [putEach]
    refine congrArg some ?_
    apply ext_L
    rw [L_append, L_B]
    simp [emL]
  | x :: l, acc, h, hs => by
    have h1 := emL_len [inO kind x]
    rw [List.length_cons] at hs
    rw [List.length_singleton] at h1
    rw [putEach, putOne_eq k hk kind x (h x List.mem_cons_self), Option.bind_some, if_pos (by rw [size_B]; omega), putEach_eq k hk kind l _ (fun y hy => h y (List.mem_cons_of_mem _ hy)) (by rw [ByteArray.size_append, size_B]; omega)]
    refine congrArg some ?_
    apply ext_L
    rw [L_append, L_append, L_append, L_B, L_B, L_B, List.map_cons, show inO kind x :: l.map (inO kind) = [inO kind x] ++ l.map (inO kind) from rfl, emL_append, List.append_assoc]
def cdO (kind : Int) : Int := if kind = 2 then 3 else if kind = 3 then 4 else 25
def hdP (kind iaid t1 t2 : Int) : List UInt8 := if kind = 3 then be4 iaid else be4 iaid ++ (be4 t1 ++ be4 t2)
def iaZ (kind : Int) (l : List S58) (code : Int) : List S42 := l.map (inO kind) ++ stZ code
def ok4 (n : Int) : Prop := 0 ≤ n ∧ n < 4294967296
theorem codeOf_eq (kind : Int) : opt6_codeOf.f kind = some (cdO kind) := by
  unfold opt6_codeOf.f cdO
  by_cases h2 : kind = 2
  · rw [if_pos h2, if_pos h2]
  · rw [if_neg h2, if_neg h2]
    by_cases h3 : kind = 3
    · rw [if_pos h3, if_pos h3]
    · rw [if_neg h3, if_neg h3]
theorem putTail_eq (k : Nat) (hk : 20 ≤ k) (kind : Int) (l : List S58) (code : Int) (acc : ByteArray) (h : ∀ x ∈ l, okX x) (hl : l.length ≤ 8) (ha : acc.size ≤ 100) : putTail k kind l code acc = some (cdO kind, acc ++ B (emL (iaZ kind l code)), 0) := by
  have h1 := emL_len (l.map (inO kind))
  have h2 := stZ_len code
  rw [List.length_map] at h1
  unfold putTail
  rw [putEach_eq k hk kind l acc h (by omega), Option.bind_some, status_eq _ k (by omega), Option.bind_some, if_pos (by rw [ByteArray.size_append, size_B, size_B]; omega), codeOf_eq, Option.bind_some]
  refine congrArg some (Prod.ext rfl (Prod.ext ?_ rfl))
  show _ ++ _ ++ _ = _
  apply ext_L
  unfold iaZ
  rw [L_append, L_append, L_append, L_B, L_B, L_B, emL_append, List.append_assoc]
theorem putK_eq (k : Nat) (hk : 20 ≤ k) (kind iaid t1 t2 : Int) (l : List S58) (code : Int) (h : ∀ x ∈ l, okX x) (hi : ok4 iaid) (h1 : ok4 t1) (h2 : ok4 t2) :
    putK k kind iaid t1 t2 l code = some (if sndS kind t1 t2 l code = true then (cdO kind, B (hdP kind iaid t1 t2 ++ emL (iaZ kind l code)), 0) else (0, NIL, 130)) := by
  unfold putK
  rw [soundK_eq k (by omega) kind iaid t1 t2 l code h, Option.bind_some]
  cases hs : sndS kind t1 t2 l code with
  | false => rfl
  | true =>
    have hl : l.length ≤ 8 := by
      unfold sndS at hs
      simp only [Bool.and_eq_true, decide_eq_true_eq] at hs
      exact hs.2.2.1
    have e0 : (⟨#[]⟩ : ByteArray) ++ B (be4 iaid) = B (be4 iaid) := by
      apply ext_L
      rw [L_append]
      rfl
    rw [if_pos rfl, if_pos rfl, Put32 (by omega) _ hi.1 hi.2, Option.bind_some, if_pos (by rw [size_B, be4_length]; omega), e0]
    unfold hdP
    by_cases h3 : kind = 3
    · rw [if_pos h3, if_pos h3, putTail_eq k hk kind l code _ h hl (by rw [size_B, be4_length]; omega), B_append]
    · rw [if_neg h3, if_neg h3, Put32 (by omega) _ h1.1 h1.2, Option.bind_some, Put32 (by omega) _ h2.1 h2.2, Option.bind_some, B_append, B_append, if_pos (by rw [size_B, size_B, List.length_append, be4_length, be4_length, be4_length]; omega), putTail_eq k hk kind l code _ h hl (by rw [size_B, List.length_append, List.length_append, be4_length, be4_length, be4_length]; omega), B_append]
theorem put_f (kind iaid t1 t2 : Int) (l : List S58) (code : Int) (h : ∀ x ∈ l, okX x) (hi : ok4 iaid) (h1 : ok4 t1) (h2 : ok4 t2) :
    opt6_PutIA.f kind iaid t1 t2 l code = some (if sndS kind t1 t2 l code = true then (cdO kind, B (hdP kind iaid t1 t2 ++ emL (iaZ kind l code)), 0) else (0, NIL, 130)) := putK_eq 1000 (by decide) kind iaid t1 t2 l code h hi h1 h2
def stL : List S42 → Int → Option Int
  | [], cur => some cur
  | x :: l, cur => if x.f0 = 13 then (if cutB (L x.f1) 0 2 = true then stL l (if cur = -1 then getN (L x.f1) 0 2 else cur) else none) else stL l cur
def okS (x : S42) : Prop := x.f1.size ≤ 4611686018427387904
theorem statS_eq (k : Nat) (hk : 10 ≤ k) : ∀ (zs : List S42) (cur : Int), (∀ x ∈ zs, okS x) → statS k zs cur = some (stL zs cur)
  | [], cur, _ => rfl
  | x :: zs, cur, h => by
    have ih := fun c => statS_eq k hk zs c (fun y hy => h y (List.mem_cons_of_mem _ hy))
    rw [statS, stL]
    by_cases h13 : x.f0 = 13
    · rw [if_pos h13, if_pos h13, getStatus_eq _ (h x List.mem_cons_self) k hk, Option.bind_some]
      by_cases hc : cutB (L x.f1) 0 2 = true
      · rw [if_pos hc, if_pos hc]
        dsimp only
        rw [if_pos rfl, ih]
      · rw [if_neg hc, if_neg hc]
        rfl
    · rw [if_neg h13, if_neg h13, ih]
def ga (h : List UInt8) (p : Int) : Int × Int := (getN (cutL h p 16) 0 8, getN (cutL h p 16) 8 8)
def rdT (l : List UInt8) (size : Nat) (a0 a1 bits p v : Int) : Except Int S58 :=
  if sd a0 a1 bits = true then (if (opts (l.drop size)).2 = 0 then (match stL (opts (l.drop size)).1 (-1) with | some c => .ok ⟨⟨⟨a0, a1⟩, bits⟩, p, v, c⟩ | none => .error 130) else .error (opts (l.drop size)).2) else .error 130
def rdI (kind : Int) (l : List UInt8) : Except Int S58 :=
  if kind = 4 then (if cutB l 0 25 = true then rdT l 25 (ga (cutL l 0 25) 9).1 (ga (cutL l 0 25) 9).2 (((cutL l 0 25).getD 8 0).toNat : Int) (getN (cutL l 0 25) 0 4) (getN (cutL l 0 25) 4 4) else .error 3)
  else (if cutB l 0 24 = true then rdT l 24 (ga (cutL l 0 24) 0).1 (ga (cutL l 0 24) 0).2 128 (getN (cutL l 0 24) 16 4) (getN (cutL l 0 24) 20 4) else .error 3)
theorem okO_S {x : S42} (h : okO x) : okS x := by have := h.1; unfold okS; omega
theorem getN8 (l : List UInt8) (i : Int) : 0 ≤ getN l i 8 ∧ getN l i 8 < 18446744073709551616 := by
  have := getN_range l i 8
  simpa using this
theorem getN4 (l : List UInt8) (i : Int) : 0 ≤ getN l i 4 ∧ getN l i 4 < 4294967296 := by
  have := getN_range l i 4
  simpa using this
theorem readT_eq (k : Nat) (hk : 300 ≤ k) (data : ByteArray) (hd : data.size ≤ 4611686018427387904) (size : Nat) (hs : size ≤ data.size) (a0 a1 bits p v : Int) (h0 : 0 ≤ a0 ∧ a0 < 18446744073709551616) (h1 : 0 ≤ a1 ∧ a1 < 18446744073709551616) :
    readT k data size a0 a1 bits p v = some (rdT (L data) size a0 a1 bits p v) := by
  unfold readT rdT
  rw [sd_eq (by omega) a0 a1 bits h0 h1, Option.bind_some]
  cases sd a0 a1 bits with
  | false => rfl
  | true =>
    rw [if_pos rfl, if_pos hs, parse_eq _ (by rw [ByteArray.size_extract]; omega) k hk, Option.bind_some, extract_from, if_pos rfl]
    by_cases he : (opts ((L data).drop size)).2 = 0
    · rw [if_pos he, if_pos he, statS_eq k (by omega) _ _ (fun x hx => okO_S ((opts_ok _).1 x hx)), Option.bind_some]
      cases stL (opts ((L data).drop size)).1 (-1) <;> rfl
    · rw [if_neg he, if_neg he]
theorem readI_eq (k : Nat) (hk : 300 ≤ k) (kind : Int) (data : ByteArray) (hd : data.size ≤ 4611686018427387904) : readI k kind data = some (rdI kind (L data)) := by
  unfold readI rdI
  by_cases h4 : kind = 4
  · rw [if_pos h4, if_pos h4, cut data 0 25 hd (by omega) (by omega), Option.bind_some]
    by_cases hc : cutB (L data) 0 25 = true
    · have hb := cutB_bound hc
      have hl : (cutL (L data) 0 25).length = 25 := by rw [cutL_length, if_pos hc]; rfl
      have hc16 : cutB (cutL (L data) 0 25) 9 16 = true := by simp only [cutB, decide_eq_true_eq, hl]; omega
      have hz : (B (cutL (L data) 0 25)).size ≤ 4611686018427387904 := by rw [size_B, hl]; omega
      have hc1 : 8 < (cutL (L data) 0 25).length := by omega
      dsimp only
      rw [hc, if_pos rfl, if_pos rfl, dif_pos (by rw [size_B, hl]; omega), get32 (by omega) _ 0 hz (by omega), Option.bind_some, get32 (by omega) _ 4 hz (by omega), Option.bind_some, getAddr (by omega) _ 9 hz (by omega), Option.bind_some, L_B, if_pos hc16]
      dsimp only
      have e8 : ∀ hh, (((B (cutL (L data) 0 25))[8]'hh).toNat : Int) = (((cutL (L data) 0 25).getD 8 0).toNat : Int) := fun hh => by
        rw [List.getD_eq_getElem?_getD, List.getElem?_eq_getElem hc1]
        rfl
      rw [e8, w64 (byte_range _), readT_eq k hk data hd 25 (by rw [size_L]; omega) _ _ _ _ _ (getN8 _ _) (getN8 _ _)]
      rfl
    · dsimp only
      rw [if_neg hc, if_neg hc]
  · rw [if_neg h4, if_neg h4, cut data 0 24 hd (by omega) (by omega), Option.bind_some]
    by_cases hc : cutB (L data) 0 24 = true
    · have hb := cutB_bound hc
      have hl : (cutL (L data) 0 24).length = 24 := by rw [cutL_length, if_pos hc]; rfl
      have hc16 : cutB (cutL (L data) 0 24) 0 16 = true := by simp only [cutB, decide_eq_true_eq, hl]; omega
      have hz : (B (cutL (L data) 0 24)).size ≤ 4611686018427387904 := by rw [size_B, hl]; omega
      dsimp only
      rw [hc, if_pos rfl, if_pos rfl, get32 (by omega) _ 16 hz (by omega), Option.bind_some, get32 (by omega) _ 20 hz (by omega), Option.bind_some, getAddr (by omega) _ 0 hz (by omega), Option.bind_some, L_B, if_pos hc16]
      dsimp only
      rw [readT_eq k hk data hd 24 (by rw [size_L]; omega) _ _ _ _ _ (getN8 _ _) (getN8 _ _)]
      rfl
    · dsimp only
      rw [if_neg hc, if_neg hc]
def glL (kind part : Int) : List S42 → List S58 → Int → Except Int (List S58 × Int)
  | [], has, cur => .ok (has, cur)
  | x :: l, has, cur =>
    if x.f0 = 13 then (if cutB (L x.f1) 0 2 = true then glL kind part l has (if cur = -1 then getN (L x.f1) 0 2 else cur) else .error 130)
    else if x.f0 = part then (if 8 ≤ has.length then .error 6 else match rdI kind (L x.f1) with | .ok y => glL kind part l (has ++ [y]) cur | .error e => .error e)
    else glL kind part l has cur
theorem getL_eq (k : Nat) (hk : 300 ≤ k) (kind part : Int) : ∀ (zs : List S42) (has : List S58) (cur : Int), (∀ x ∈ zs, okS x) → getL k kind part zs has cur = some (glL kind part zs has cur)
  | [], has, cur, _ => rfl
  | x :: zs, has, cur, h => by
    have ih := fun hs c => getL_eq k hk kind part zs hs c (fun y hy => h y (List.mem_cons_of_mem _ hy))
    rw [getL, glL]
    by_cases h13 : x.f0 = 13
    · rw [if_pos h13, if_pos h13, getStatus_eq _ (h x List.mem_cons_self) k (by omega), Option.bind_some]
      by_cases hc : cutB (L x.f1) 0 2 = true
      · rw [if_pos hc, if_pos hc]
        dsimp only
        rw [if_pos rfl, ih]
      · rw [if_neg hc, if_neg hc]
        rfl
    · rw [if_neg h13, if_neg h13]
      by_cases hp : x.f0 = part
      · rw [if_pos hp, if_pos hp]
        by_cases h8 : 8 ≤ has.length
        · rw [if_pos h8, if_pos h8]
        · rw [if_neg h8, if_neg h8, readI_eq k hk kind _ (h x List.mem_cons_self), Option.bind_some]
          cases rdI kind (L x.f1) with
          | ok y => exact ih _ _
          | error e => rfl
      · rw [if_neg hp, if_neg hp, ih]
theorem getN2 (l : List UInt8) (i : Int) : 0 ≤ getN l i 2 ∧ getN l i 2 < 65536 := by
  have := getN_range l i 2
  simpa using this
theorem rdT_err {l : List UInt8} {size : Nat} {a0 a1 bits p v e : Int} (h : rdT l size a0 a1 bits p v = .error e) : e ≠ 0 := by
  unfold rdT at h
  by_cases h1 : sd a0 a1 bits = true
  · rw [if_pos h1] at h
    by_cases h2 : (opts (l.drop size)).2 = 0
    · rw [if_pos h2] at h
      cases hs : stL (opts (l.drop size)).1 (-1) with
      | none => rw [hs] at h; injection h with h; omega
      | some c => rw [hs] at h; cases h
    · rw [if_neg h2] at h; injection h with h; omega
  · rw [if_neg h1] at h; injection h with h; omega
theorem rdI_err {kind : Int} {l : List UInt8} {e : Int} (h : rdI kind l = .error e) : e ≠ 0 := by
  unfold rdI at h
  by_cases h4 : kind = 4
  · rw [if_pos h4] at h
    by_cases hc : cutB l 0 25 = true
    · rw [if_pos hc] at h; exact rdT_err h
    · rw [if_neg hc] at h; injection h with h; omega
  · rw [if_neg h4] at h
    by_cases hc : cutB l 0 24 = true
    · rw [if_pos hc] at h; exact rdT_err h
    · rw [if_neg hc] at h; injection h with h; omega
theorem short4 (l : List UInt8) (i : Int) (hi : 4 ≤ i) (h : l.length ≤ 4) : getN l i 4 = 0 := by
  have : cutB l i 4 = false := by
    unfold cutB
    exact decide_eq_false (fun q => by omega)
  unfold getN cutL
  rw [this]
  rfl
def gB (kind : Int) (size : Nat) (part : Int) (l : List UInt8) : Except Int (Int × Int × Int × List S58 × Int) :=
  if cutB l 0 size = true then (if (opts (l.drop size)).2 = 0 then (match glL kind part (opts (l.drop size)).1 [] (-1) with | .ok y => .ok (getN (cutL l 0 size) 0 4, getN (cutL l 0 size) 4 4, getN (cutL l 0 size) 8 4, y.1, y.2) | .error e => .error e) else .error (opts (l.drop size)).2) else .error 3
theorem getB_eq (k : Nat) (hk : 300 ≤ k) (kind : Int) (size : Nat) (hsz : size ≤ 100) (part : Int) (data : ByteArray) (hd : data.size ≤ 4611686018427387904) : getB k kind size part data = some (gB kind size part (L data)) := by
  unfold getB gB
  rw [cut data 0 size hd (by omega) (by omega), Option.bind_some]
  by_cases hc : cutB (L data) 0 size = true
  · have hb := cutB_bound hc
    have hl : (cutL (L data) 0 size).length = size := by rw [cutL_length, if_pos hc]; rfl
    have hz : (B (cutL (L data) 0 size)).size ≤ 4611686018427387904 := by rw [size_B, hl]; omega
    dsimp only
    rw [hc, if_pos rfl, if_pos rfl, get32 (by omega) _ 0 hz (by omega), Option.bind_some, get32 (by omega) _ 4 hz (by omega), Option.bind_some, get32 (by omega) _ 8 hz (by omega), Option.bind_some, L_B, if_pos (by rw [size_L]; omega), parse_eq _ (by rw [ByteArray.size_extract]; omega) k hk, Option.bind_some, extract_from]
    by_cases he : (opts ((L data).drop size)).2 = 0
    · rw [if_pos he, if_pos he, getL_eq k hk kind part _ _ _ (fun x hx => okO_S ((opts_ok _).1 x hx)), Option.bind_some]
      cases glL kind part (opts ((L data).drop size)).1 [] (-1) <;> rfl
    · rw [if_neg he, if_neg he]
  · dsimp only
    rw [if_neg hc, if_neg hc]
def gI (code : Int) (l : List UInt8) : Int × Int × Int × Int × List S58 × Int × Int :=
  if code = 3 then getO 2 (gB 2 12 5 l) else if code = 4 then getO 3 (gB 3 4 5 l) else if code = 25 then getO 4 (gB 4 12 26 l) else (0, 0, 0, 0, [], 0, 130)
theorem get_f (code : Int) (data : ByteArray) (hd : data.size ≤ 4611686018427387904) : opt6_GetIA.f code data = some (gI code (L data)) := by
  unfold opt6_GetIA.f getK gI
  by_cases h3 : code = 3
  · rw [if_pos h3, if_pos h3, getB_eq 1000 (by decide) 2 12 (by decide) 5 data hd, Option.bind_some]
  · rw [if_neg h3, if_neg h3]
    by_cases h4 : code = 4
    · rw [if_pos h4, if_pos h4, getB_eq 1000 (by decide) 3 4 (by decide) 5 data hd, Option.bind_some]
    · rw [if_neg h4, if_neg h4]
      by_cases h25 : code = 25
      · rw [if_pos h25, if_pos h25, getB_eq 1000 (by decide) 4 12 (by decide) 26 data hd, Option.bind_some]
      · rw [if_neg h25, if_neg h25]
end Go.Proofs.Ythadapbekmmgpaa.O6


set_option linter.unusedVariables false
set_option linter.unusedSimpArgs false
namespace Go.Proofs.Ythadapbekmmgpaa.O6
open Go Go.RowKit Go.Proofs.YthadapbekmmgpaaW.PrintWords Go.Proofs.YthadapbekmmgpaaW.PrintLast Go.Proofs.YthadapbekmmgpaaW.PrintMore Go.Proofs.Ythadapbekmmgpaa.X Go.Proofs.Ythadapbekmmgpaa.Oct
/-- One option, or none. -/
def opZ (is : Bool) (code : Int) (data : ByteArray) : List S42 := if is = true then [⟨code, data⟩] else []
theorem w6add_op (is : Bool) (code : Int) (data : ByteArray) (l : List S42) : w6add is code data l = l ++ opZ is code data := by cases is <;> simp [w6add, opZ]
/-- The options that a message's fields tell. -/
def fdZ (m : Ms) : List S42 := opZ (!m.cl.toList.isEmpty) 1 m.cl ++ (opZ (!m.sv.toList.isEmpty) 2 m.sv ++ (opZ (m.code != -1) 13 (B (stD m.code)) ++ (opZ m.rap 14 NIL ++ (opZ m.acc 20 NIL ++ opZ (m.again != 0) 19 (B [b8 m.again])))))
theorem head_fd (m : Ms) : w6head m.cl m.sv m.code (B (stD m.code)) m.rap m.acc m.again = fdZ m := by
  unfold w6head fdZ
  simp only [w6add_op, List.append_assoc, List.nil_append, nums1]
def iaO (a : S51) : S42 := ⟨cdO a.f0, B (hdP a.f0 a.f1 a.f2 a.f3 ++ emL (iaZ a.f0 a.f4 a.f5))⟩
def iaOk (a : S51) : Bool := sndS a.f0 a.f2 a.f3 a.f4 a.f5
def iaF (a : S51) : Prop := (∀ x ∈ a.f4, okX x) ∧ ok4 a.f1 ∧ ok4 a.f2 ∧ ok4 a.f3
theorem w6put_eq : ∀ (l : List S51) (acc : List S42), (∀ a ∈ l, iaF a) → w6put l acc = some (if l.all iaOk = true then (acc ++ l.map iaO, 0) else ([], 130))
  | [], acc, _ => by rw [w6put, List.all_nil, if_pos rfl, List.map_nil, List.append_nil]
  | x :: l, acc, h => by
    have hx := h x List.mem_cons_self
    rw [w6put, put_f x.f0 x.f1 x.f2 x.f3 x.f4 x.f5 hx.1 hx.2.1 hx.2.2.1 hx.2.2.2, Option.bind_some, List.all_cons]
    cases hs : iaOk x with
    | true =>
      rw [if_pos (show sndS x.f0 x.f2 x.f3 x.f4 x.f5 = true from hs), if_pos rfl, w6put_eq l _ (fun a ha => h a (List.mem_cons_of_mem _ ha)), Bool.true_and, List.map_cons]
      by_cases hl : l.all iaOk = true
      · rw [if_pos hl, if_pos hl, List.append_assoc]
        rfl
      · rw [if_neg hl, if_neg hl]
    | false =>
      rw [if_neg (show ¬ sndS x.f0 x.f2 x.f3 x.f4 x.f5 = true from fun e => by rw [show sndS x.f0 x.f2 x.f3 x.f4 x.f5 = iaOk x from rfl, hs] at e; cases e), Bool.false_and, if_neg (by decide), if_neg (by decide)]
def allZ (m : Ms) : List S42 := fdZ m ++ (m.ias.map iaO ++ m.opts)
theorem options_f (m : Ms) (h : ∀ a ∈ m.ias, iaF a) (hl : m.ias.length + m.opts.length < 5864062014700) : wire6_options.f m.ty m.xid m.cl m.sv m.ias m.code m.rap m.acc m.again m.opts = some (if m.ias.all iaOk = true then (allZ m, 0) else ([], 130)) := by
  unfold wire6_options.f
  rw [if_pos hl, putStatus_eq _ _ (by decide), Option.bind_some, head_fd, w6put_eq _ _ h, Option.bind_some]
  by_cases hs : m.ias.all iaOk = true
  · rw [if_pos hs, if_pos hs, if_pos rfl]
    unfold allZ
    rw [List.append_assoc]
  · rw [if_neg hs, if_neg hs, if_neg (by decide)]
theorem index_go (l : List Int) (x : Int) (hl : l.length ≤ 1000) (d : Nat) : ∀ (k i : Nat), l.length - i = d → i ≤ l.length → d + 1 ≤ k → ∃ r, slices_Index_uint16_uint16.l0 k l x (l.length : Int) (i : Int) = some r ∧ decide (r ≥ 0) = (l.drop i).contains x := by
  induction d with
  | zero =>
    intro k i hd hi hk
    obtain ⟨k, rfl⟩ : ∃ m, k = m + 1 := ⟨k - 1, by omega⟩
    rw [slices_Index_uint16_uint16.l0, if_neg (by omega), List.drop_of_length_le (by omega)]
    exact ⟨_, rfl, rfl⟩
  | succ d ih =>
    intro k i hd hi hk
    obtain ⟨k, rfl⟩ : ∃ m, k = m + 1 := ⟨k - 1, by omega⟩
    have hlt : i < l.length := by omega
    have hr : rd l (i : Int) = l[i] := by simp [rd, List.getD_eq_getElem?_getD, List.getElem?_eq_getElem hlt]
    rw [slices_Index_uint16_uint16.l0, if_pos (by omega), if_pos (by omega), if_pos (by omega), hr, List.drop_eq_getElem_cons hlt, List.contains_cons]
    by_cases hx : x = l[i]
    · rw [if_pos hx]
      refine ⟨_, rfl, ?_⟩
      rw [decide_eq_true (by omega), beq_iff_eq.2 hx]
      rfl
    · rw [if_neg hx, w64 (by omega), (by simpa using hx : (x == l[i]) = false), Bool.false_or]
      exact ih k (i + 1) (by omega) (by omega) (by omega)
def ownB (c : Int) : Bool := [1, 2, 3, 4, 13, 14, 19, 20, 25].contains c
theorem isOwn_eq (k : Nat) (hk : 12 ≤ k) (c : Int) : wire6_isOwn.f k c = some (ownB c) := by
  obtain ⟨r, h1, h2⟩ := index_go [1, 2, 3, 4, 13, 14, 19, 20, 25] c (by decide) 9 k 0 rfl (by decide) (by omega)
  unfold wire6_isOwn.f slices_Contains_uint16_uint16.f slices_Index_uint16_uint16.f
  rw [show slices_Index_uint16_uint16.l0 k [1, 2, 3, 4, 13, 14, 19, 20, 25] c (([1, 2, 3, 4, 13, 14, 19, 20, 25] : List Int).length : Int) 0 = some r from h1, Option.bind_some, Option.bind_some, h2]
  rfl
def opOk (o : S42) : Bool := !ownB o.f0 && decide (o.f1.size ≤ 65535)
def tlS (m : Ms) : Bool := m.ias.all iaOk && decide ((allZ m).length ≤ 128)
def hdS (m : Ms) : Bool := decide (1 ≤ m.ty ∧ m.ty ≤ 11 ∧ m.xid < 16777216 ∧ m.cl.size ≤ 130 ∧ m.sv.size ≤ 130 ∧ m.ias.length ≤ 8 ∧ -1 ≤ m.code ∧ m.code ≤ 65535) && (m.again == 0 || w6again m.again)
/-- Whether it is a message. -/
def sdM (m : Ms) : Bool := hdS m && (m.opts.all opOk && tlS m)
theorem sound_go (m : Ms) (hF : ∀ a ∈ m.ias, iaF a) (ho : m.opts.length ≤ 5864062014650) (hi8 : m.ias.length ≤ 8) (d : Nat) : ∀ (k i : Nat), m.opts.length - i = d → i ≤ m.opts.length → d + 20 ≤ k →
    wire6_Sound.l0 k m.opts (m.opts.length : Int) (i : Int) m.ty m.xid m.cl m.sv m.ias m.code m.rap m.acc m.again m.opts = some ((m.opts.drop i).all opOk && tlS m) := by
  induction d with
  | zero =>
    intro k i hd hi hk
    obtain ⟨k, rfl⟩ : ∃ m, k = m + 1 := ⟨k - 1, by omega⟩
    rw [wire6_Sound.l0, if_neg (by omega), List.drop_of_length_le (by omega), options_f m hF (by omega), Option.bind_some, List.all_nil, Bool.true_and]
    unfold tlS
    cases m.ias.all iaOk with
    | true => rw [if_pos rfl, if_pos rfl, Bool.true_and]; congr 1; exact decide_eq_decide.2 (by show ((allZ m).length : Int) ≤ 128 ↔ _; omega)
    | false => rfl
  | succ d ih =>
    intro k i hd hi hk
    obtain ⟨k, rfl⟩ : ∃ m, k = m + 1 := ⟨k - 1, by omega⟩
    have hlt : i < m.opts.length := by omega
    rw [wire6_Sound.l0, if_pos (by omega), if_pos (by omega), if_pos (by omega), isOwn_eq k (by omega), Option.bind_some, drop_at _ i hlt, List.all_cons]
    unfold opOk
    cases hw : ownB (rd_T42 m.opts (i : Int)).f0 with
    | true => rw [if_pos rfl]; rfl
    | false =>
      rw [if_neg (by decide)]
      by_cases hz : ((rd_T42 m.opts (i : Int)).f1.size : Int) > 65535
      · rw [if_pos hz, decide_eq_false (by omega)]
        rfl
      · rw [if_neg hz, decide_eq_true (by omega), w64 (by omega)]
        exact ih k (i + 1) (by omega) (by omega) (by omega)
theorem j0_bad (m : Ms) (k : Nat) (hk : 1 ≤ k) : wire6_Sound.j0 k true m.ty m.xid m.cl m.sv m.ias m.code m.rap m.acc m.again m.opts = some false := by
  obtain ⟨k, rfl⟩ : ∃ m, k = m + 1 := ⟨k - 1, by omega⟩
  rw [wire6_Sound.j0, if_pos rfl]
theorem sound_eq (m : Ms) (hF : ∀ a ∈ m.ias, iaF a) (ho : m.opts.length ≤ 5864062014650) (k : Nat) (hk : m.opts.length + 30 ≤ k) :
    wire6_Sound.f k m.ty m.xid m.cl m.sv m.ias m.code m.rap m.acc m.again m.opts = some (sdM m) := by
  obtain ⟨k, rfl⟩ : ∃ m, k = m + 3 := ⟨k - 3, by omega⟩
  have hbad : ¬ (1 ≤ m.ty ∧ m.ty ≤ 11 ∧ m.xid < 16777216 ∧ m.cl.size ≤ 130 ∧ m.sv.size ≤ 130 ∧ m.ias.length ≤ 8 ∧ -1 ≤ m.code ∧ m.code ≤ 65535) → some false = some (sdM m) := fun h => by
    unfold sdM hdS
    rw [decide_eq_false h]
    rfl
  unfold wire6_Sound.f
  by_cases h1 : m.ty < 1
  · rw [if_pos h1, j0_bad m _ (by omega)]; exact hbad (by omega)
  rw [if_neg h1]
  by_cases h2 : m.ty > 11
  · rw [if_pos h2, j0_bad m _ (by omega)]; exact hbad (by omega)
  rw [if_neg h2, wire6_Sound.j0]
  by_cases h3 : m.xid ≥ 16777216
  · rw [if_pos (decide_eq_true h3)]; exact hbad (by omega)
  rw [if_neg (by simpa using h3)]
  have hmx : mx (m.cl.size : Int) (m.sv.size : Int) > 130 ↔ ¬ (m.cl.size ≤ 130 ∧ m.sv.size ≤ 130) := by unfold mx; split <;> omega
  by_cases h4 : mx (m.cl.size : Int) (m.sv.size : Int) > 130
  · rw [if_pos h4, wire6_Sound.j1, if_pos rfl]; exact hbad (fun h => hmx.1 h4 ⟨h.2.2.2.1, h.2.2.2.2.1⟩)
  rw [if_neg h4, wire6_Sound.j1]
  have h4' : m.cl.size ≤ 130 ∧ m.sv.size ≤ 130 := Decidable.byContradiction (fun h => h4 (hmx.2 h))
  by_cases h5 : (m.ias.length : Int) > 8
  · rw [if_pos (decide_eq_true h5)]; exact hbad (by omega)
  rw [if_neg (by simpa using h5)]
  by_cases h6 : m.code < -1
  · rw [if_pos h6]; exact hbad (by omega)
  rw [if_neg h6]
  by_cases h7 : m.code > 65535
  · rw [if_pos h7]; exact hbad (by omega)
  rw [if_neg h7]
  have hj : wire6_Sound.j2 (k + 1) m.ty m.xid m.cl m.sv m.ias m.code m.rap m.acc m.again m.opts = some (m.opts.all opOk && tlS m) := by
    rw [wire6_Sound.j2]
    exact sound_go m hF ho (by omega) m.opts.length k 0 (by omega) (by omega) (by omega)
  have hh : hdS m = (m.again == 0 || w6again m.again) := by
    unfold hdS
    rw [decide_eq_true (by omega)]
    exact Bool.true_and _
  unfold sdM
  rw [hj, hh, w6again_f, Option.bind_some]
  by_cases h8 : m.again = 0
  · rw [if_pos h8, beq_iff_eq.2 h8, Bool.true_or, Bool.true_and]
  · rw [if_neg h8, (by simpa using h8 : (m.again == 0) = false), Bool.false_or]
    cases w6again m.again with
    | true => rw [if_pos rfl, Bool.true_and]
    | false => rfl
structure SdM (m : Ms) : Prop where
  ty : 1 ≤ m.ty ∧ m.ty ≤ 11
  xid : m.xid < 16777216
  cl : m.cl.size ≤ 130
  sv : m.sv.size ≤ 130
  ias : m.ias.length ≤ 8
  code : -1 ≤ m.code ∧ m.code ≤ 65535
  again : (m.again == 0 || w6again m.again) = true
  opts : m.opts.all opOk = true
  iaOk : m.ias.all iaOk = true
  all : (allZ m).length ≤ 128
end Go.Proofs.Ythadapbekmmgpaa.O6


set_option linter.unusedVariables false
set_option linter.unusedSimpArgs false
namespace Go.Proofs.Ythadapbekmmgpaa.O6
open Go Go.RowKit Go.Proofs.YthadapbekmmgpaaW.PrintWords Go.Proofs.YthadapbekmmgpaaW.PrintLast Go.Proofs.YthadapbekmmgpaaW.PrintMore Go.Proofs.Ythadapbekmmgpaa.X Go.Proofs.Ythadapbekmmgpaa.Oct
/-- An association out of what GetIA answers. -/
def iaP (p : Int × Int × Int × Int × List S58 × Int × Int) : S51 := ⟨p.1, p.2.1, p.2.2.1, p.2.2.2.1, p.2.2.2.2.1, p.2.2.2.2.2.1⟩
/-- An option read into a message. -/
def rdM (m : Ms) (o : S42) (again : Bool) : Ms × Int :=
  if o.f0 = 1 then ({ m with cl := o.f1 }, w6only (w6size o.f1) again)
  else if o.f0 = 2 then ({ m with sv := o.f1 }, w6only (w6size o.f1) again)
  else if o.f0 = 13 then ({ m with code := (if cutB (L o.f1) 0 2 = true then getN (L o.f1) 0 2 else -1) }, w6only (cutB (L o.f1) 0 2) again)
  else if o.f0 = 14 then ({ m with rap := true }, w6only ((o.f1.size : Int) == 0) again)
  else if o.f0 = 20 then ({ m with acc := true }, w6only ((o.f1.size : Int) == 0) again)
  else if o.f0 = 19 then (if (o.f1.size : Int) = 1 then ({ m with again := bt o.f1 0 }, w6only (w6again (bt o.f1 0)) again) else (m, 130))
  else if o.f0 = 3 ∨ o.f0 = 4 ∨ o.f0 = 25 then (if m.ias.length < 8 then ({ m with ias := m.ias ++ [iaP (gI o.f0 (L o.f1))] }, (gI o.f0 (L o.f1)).2.2.2.2.2.2) else (m, 6))
  else ({ m with opts := m.opts ++ [o] }, 0)
theorem read_eq (m : Ms) (o : S42) (again : Bool) (hs : o.f1.size ≤ 4611686018427387904) (hl : m.opts.length < 1000000) : wire6_read.f m o.f0 o.f1 again = some (rdM m o again) := by
  unfold wire6_read.f rdM
  by_cases h1 : o.f0 = 1
  · rw [if_pos h1, if_pos h1]
  rw [if_neg h1, if_neg h1]
  by_cases h2 : o.f0 = 2
  · rw [if_pos h2, if_pos h2]
  rw [if_neg h2, if_neg h2]
  by_cases h3 : o.f0 = 13
  · rw [if_pos h3, if_pos h3, getStatus_eq _ hs 1000 (by decide), Option.bind_some]
    by_cases hc : cutB (L o.f1) 0 2 = true
    · rw [if_pos hc, if_pos hc, hc]
    · rw [if_neg hc, if_neg hc, Bool.eq_false_iff.2 hc]
  rw [if_neg h3, if_neg h3]
  by_cases h4 : o.f0 = 14
  · rw [if_pos h4, if_pos h4]
  rw [if_neg h4, if_neg h4]
  by_cases h5 : o.f0 = 20
  · rw [if_pos h5, if_pos h5]
  rw [if_neg h5, if_neg h5]
  by_cases h6 : o.f0 = 19
  · rw [if_pos h6, if_pos h6]
    by_cases hz : (o.f1.size : Int) = 1
    · rw [if_pos hz, if_pos hz]
    · rw [if_neg hz, if_neg hz]
  rw [if_neg h6, if_neg h6]
  by_cases h7 : o.f0 = 3 ∨ o.f0 = 4 ∨ o.f0 = 25
  · rw [if_pos h7, if_pos h7]
    by_cases hz : m.ias.length < 8
    · rw [if_pos hz, if_pos hz, get_f _ _ hs, Option.bind_some]
      rfl
    · rw [if_neg hz, if_neg hz]
  rw [if_neg h7, if_neg h7, if_pos hl]
theorem rdM_opts (m : Ms) (o : S42) (again : Bool) : (rdM m o again).1.opts.length ≤ m.opts.length + 1 := by
  unfold rdM
  repeat' split
  all_goals first | (show (m.opts ++ [o]).length ≤ _; rw [List.length_append]; exact Nat.le_refl _) | exact Nat.le_succ _
def runM : List S42 → List Int → Ms → Ms × Int
  | [], _, m => (m, 0)
  | o :: l, seen, m => if (rdM m o (seen.contains o.f0)).2 = 0 then runM l (o.f0 :: seen) (rdM m o (seen.contains o.f0)).1 else (mZ, (rdM m o (seen.contains o.f0)).2)
theorem run_eq : ∀ (l : List S42) (seen : List Int) (m : Ms), (∀ o ∈ l, okO o) → m.opts.length + l.length < 1000000 → w6run l seen m = some (runM l seen m)
  | [], _, _, _, _ => rfl
  | o :: l, seen, m, h, hl => by
    have ho := h o List.mem_cons_self
    rw [List.length_cons] at hl
    have h1 := ho.1
    rw [w6run, if_pos ⟨ho.2.1, ho.2.2, by omega⟩, read_eq m o _ (by omega) (by omega), Option.bind_some, runM]
    have h2 := rdM_opts m o (seen.contains o.f0)
    by_cases hz : (rdM m o (seen.contains o.f0)).2 = 0
    · rw [if_pos hz, if_pos hz, run_eq l _ _ (fun x hx => h x (List.mem_cons_of_mem _ hx)) (by omega)]
    · rw [if_neg hz, if_neg hz]
/-- What Decode answers. -/
def decM (l : List UInt8) : Ms × Int :=
  if 65507 < l.length then (mZ, 6)
  else if cutB l 0 4 = false then (mZ, 3)
  else if getN l 0 4 / 16777216 < 1 ∨ getN l 0 4 / 16777216 > 11 then (mZ, 141)
  else if (opts (l.drop 4)).2 = 0 then runM (opts (l.drop 4)).1 [] (w6new (getN l 0 4)) else (mZ, (opts (l.drop 4)).2)
theorem decode_eq (s : ByteArray) (hs : s.size ≤ 4611686018427387904) (k : Nat) (hk : 300 ≤ k) : wire6_Decode.f k s = some (decM (L s)) := by
  unfold wire6_Decode.f decM
  by_cases h1 : (s.size : Int) > 65507
  · rw [if_pos h1, if_pos (by rw [← size_L]; omega)]
  rw [if_neg h1, if_neg (by rw [← size_L]; omega), get32 (by omega) s 0 hs (by omega), Option.bind_some]
  dsimp only
  cases hc : cutB (L s) 0 4 with
  | false => rfl
  | true =>
    have hb := cutB_bound hc
    have hr := getN4 (L s) 0
    rw [if_neg (show ¬ (true = false) by decide), if_neg (show ¬ (true = false) by decide), if_pos (show 4 ≤ s.size ∧ 0 ≤ getN (L s) 0 4 ∧ getN (L s) 0 4 < 4294967296 from ⟨by rw [size_L]; omega, hr⟩)]
    by_cases h2 : getN (L s) 0 4 / 16777216 < 1 ∨ getN (L s) 0 4 / 16777216 > 11
    · rw [if_pos h2, if_pos h2]
    rw [if_neg h2, if_neg h2, parse_eq _ (by rw [ByteArray.size_extract]; omega) k hk, Option.bind_some, extract_from]
    by_cases h3 : (opts ((L s).drop 4)).2 = 0
    · have ho := opts_ok ((L s).drop 4)
      rw [if_pos h3, if_pos h3, if_pos (by have := ho.2; omega), run_eq _ _ _ ho.1 (by have := ho.2; show 0 + _ < _; omega)]
    · rw [if_neg h3, if_neg h3]
def rvC (a : List S42) (seen : List Int) : List Int := (a.map (·.f0)).reverse ++ seen
theorem rvC_app (a b : List S42) (seen : List Int) : rvC b (rvC a seen) = rvC (a ++ b) seen := by unfold rvC; rw [List.map_append, List.reverse_append, List.append_assoc]
theorem own_ne {c : Int} (h : ownB c = false) : c ≠ 1 ∧ c ≠ 2 ∧ c ≠ 3 ∧ c ≠ 4 ∧ c ≠ 13 ∧ c ≠ 14 ∧ c ≠ 19 ∧ c ≠ 20 ∧ c ≠ 25 := by
  unfold ownB at h
  simp only [List.contains_cons, List.contains_nil, Bool.or_false, Bool.or_eq_false_iff, beq_eq_false_iff_ne] at h
  exact h
end Go.Proofs.Ythadapbekmmgpaa.O6


set_option linter.unusedVariables false
set_option linter.unusedSimpArgs false
namespace Go.Proofs.Ythadapbekmmgpaa.O6
open Go Go.RowKit Go.Proofs.YthadapbekmmgpaaW.PrintWords Go.Proofs.YthadapbekmmgpaaW.PrintLast Go.Proofs.YthadapbekmmgpaaW.PrintMore Go.Proofs.Ythadapbekmmgpaa.X Go.Proofs.Ythadapbekmmgpaa.Oct Go.Proofs.Ythadapbekmmgpaa.Adr Go.Proofs.Ythadapbekmmgpaa.Pre

/-- One bit, the first is the highest. -/
def bitn (h l i : Nat) : Nat := if i < 64 then h / 2 ^ (63 - i) % 2 else l / 2 ^ (127 - i) % 2
theorem and_one (x : Nat) (hx : x < 18446744073709551616) : Go.bits .and .u64 (x : Int) 1 = ((x % 2 : Nat) : Int) := by
  have := Go.u64_and_nat x 1 hx (by decide)
  rw [Nat.and_one_is_mod] at this
  exact this
theorem bit_eq (h l i : Nat) (hh : h < 18446744073709551616) (hl : l < 18446744073709551616) (hi : i < 128) : tenancyref01_bit.f h l (i : Int) = some ((bitn h l i : Nat) : Int) := by
  unfold tenancyref01_bit.f bitn
  by_cases c : i < 64
  · have hw : IntKind.u64.wrap (wrap64 (63 - (i : Int))) = ((63 - i : Nat) : Int) := by rw [Adr.u64_wrap]; unfold wrap64; omega
    rw [if_pos (by omega), if_pos c, hw, if_pos (by omega), shr_nat _ _ (by omega), and_one _ (Nat.lt_of_le_of_lt (Nat.div_le_self _ _) hh)]
  · have hw : IntKind.u64.wrap (wrap64 (127 - (i : Int))) = ((127 - i : Nat) : Int) := by rw [Adr.u64_wrap]; unfold wrap64; omega
    rw [if_neg (by omega), if_neg c, hw, if_pos (by omega), shr_nat _ _ (by omega), and_one _ (Nat.lt_of_le_of_lt (Nat.div_le_self _ _) hl)]
theorem pow_small (m : Nat) (hm : m < 64) : 2 ^ m < 18446744073709551616 := by
  have := Nat.pow_lt_pow_right (a := 2) (by decide) hm
  omega
theorem shl_one (m : Nat) (hm : m < 64) : shl .u64 1 (m : Int) = ((2 ^ m : Nat) : Int) := by
  have h := shl_nat 1 m (by omega)
  rw [Nat.one_mul, Nat.mod_eq_of_lt (pow_small m hm)] at h
  exact h
theorem with_hi (h l i : Nat) (hh : h < 18446744073709551616) (hi : i < 64) : tenancyref01_with.f h l (i : Int) = some (((h ||| 2 ^ (63 - i) : Nat) : Int), (l : Int)) := by
  unfold tenancyref01_with.f
  have hw : IntKind.u64.wrap (wrap64 (63 - (i : Int))) = ((63 - i : Nat) : Int) := by rw [Adr.u64_wrap]; unfold wrap64; omega
  rw [if_pos (by omega), hw, if_pos (by omega), shl_one _ (by omega), Go.u64_or_nat _ _ hh (pow_small _ (by omega))]
theorem with_lo (h l i : Nat) (hl : l < 18446744073709551616) (hi : 64 ≤ i) (hi2 : i < 128) : tenancyref01_with.f h l (i : Int) = some ((h : Int), ((l ||| 2 ^ (127 - i) : Nat) : Int)) := by
  unfold tenancyref01_with.f
  have hw : IntKind.u64.wrap (wrap64 (127 - (i : Int))) = ((127 - i : Nat) : Int) := by rw [Adr.u64_wrap]; unfold wrap64; omega
  rw [if_neg (by omega), hw, if_pos (by omega), shl_one _ (by omega), Go.u64_or_nat _ _ hl (pow_small _ (by omega))]
theorem clip_top (A : Nat) (h : A < 18446744073709551616) : clip 64 A = 0 := by
  unfold clip
  rw [Nat.div_eq_of_lt (by omega), Nat.zero_mul]
theorem bit_set (j A : Nat) (h : A / 2 ^ j % 2 = 1) : clip (j + 1) A ||| 2 ^ j = clip j A := by
  rw [or_bit, clip_bit j A, h, Nat.one_mul]
theorem bit_unset (j A : Nat) (h : ¬ A / 2 ^ j % 2 = 1) : clip (j + 1) A = clip j A := by
  rw [clip_bit j A, show A / 2 ^ j % 2 = 0 by omega, Nat.zero_mul]; rfl
theorem clip_lt64 (k A : Nat) (h : A < 18446744073709551616) : clip k A < 18446744073709551616 := Nat.lt_of_le_of_lt (clip_le k A) h
theorem clip_loop (h l : Nat) (hh : h < 18446744073709551616) (hl : l < 18446744073709551616) (n : Nat) (hn : n ≤ 128) : ∀ (d k i : Nat), i + d = n → d < k →
    tenancyref01_Clip.l0 k (n : Int) (i : Int) h l (ch (128 - i) h : Nat) (cl (128 - i) l : Nat) = some (((ch (128 - n) h : Nat) : Int), ((cl (128 - n) l : Nat) : Int), (n : Int), true)
  | 0, k, i, hi, hk => by
    obtain ⟨j, rfl⟩ : ∃ j, k = j + 1 := ⟨k - 1, by omega⟩
    rw [tenancyref01_Clip.l0, if_neg (by omega), show i = n by omega]
  | d + 1, k, i, hi, hk => by
    obtain ⟨j, rfl⟩ : ∃ j, k = j + 1 := ⟨k - 1, by omega⟩
    have ih := clip_loop h l hh hl n hn d j (i + 1) (by omega) (by omega)
    have hwi : wrap64 ((i : Int) + 1) = ((i + 1 : Nat) : Int) := by unfold wrap64; omega
    rw [tenancyref01_Clip.l0, if_pos (by omega), bit_eq h l i hh hl (by omega), Option.bind_some, hwi]
    unfold bitn
    by_cases c : i < 64
    · have e1 : ch (128 - i) h = clip (63 - i + 1) h := by unfold ch; rw [if_pos (by omega)]; congr 1; omega
      have e2 : ch (128 - (i + 1)) h = clip (63 - i) h := by unfold ch; rw [if_pos (by omega)]; congr 1; omega
      have e3 : cl (128 - i) l = 0 := by unfold cl; rw [if_pos (by omega)]
      have e4 : cl (128 - (i + 1)) l = 0 := by unfold cl; rw [if_pos (by omega)]
      rw [e2, e4] at ih
      rw [if_pos c, e1, e3]
      by_cases b : h / 2 ^ (63 - i) % 2 = 1
      · rw [if_pos (by omega), with_hi _ _ i (clip_lt64 _ _ hh) c, Option.bind_some, bit_set _ _ b]
        exact ih
      · rw [if_neg (by omega), bit_unset _ _ b]
        exact ih
    · have e1 : ch (128 - i) h = h := by
        unfold ch
        split
        · rw [show 128 - i - 64 = 0 by omega, clip_zero]
        · rfl
      have e2 : ch (128 - (i + 1)) h = h := by unfold ch; rw [if_neg (by omega)]
      have e3 : cl (128 - i) l = clip (127 - i + 1) l := by
        unfold cl
        split
        · rw [show 127 - i + 1 = 64 by omega, clip_top l hl]
        · congr 1; omega
      have e4 : cl (128 - (i + 1)) l = clip (127 - i) l := by unfold cl; rw [if_neg (by omega)]; congr 1; omega
      rw [e2, e4] at ih
      rw [if_neg c, e1, e3]
      by_cases b : l / 2 ^ (127 - i) % 2 = 1
      · rw [if_pos (by omega), with_lo _ _ i (clip_lt64 _ _ hl) (by omega) (by omega), Option.bind_some, bit_set _ _ b]
        exact ih
      · rw [if_neg (by omega), bit_unset _ _ b]
        exact ih
theorem rclip_eq {k : Nat} (hk : 200 ≤ k) (h l : Nat) (hh : h < 18446744073709551616) (hl : l < 18446744073709551616) (n : Int) (h0 : 0 ≤ n) (h1 : n ≤ 128) :
    tenancyref01_Clip.f k h l n = some (((ch (128 - n).toNat h : Nat) : Int), ((cl (128 - n).toNat l : Nat) : Int), n, true) := by
  obtain ⟨j, rfl⟩ : ∃ j, k = j + 1 := ⟨k - 1, by omega⟩
  obtain ⟨m, rfl⟩ : ∃ m : Nat, n = (m : Int) := ⟨n.toNat, by omega⟩
  unfold tenancyref01_Clip.f
  rw [if_neg (by omega), tenancyref01_Clip.j0, decide_eq_false (by omega), if_neg (by decide)]
  have := clip_loop h l hh hl m (by omega) m j 0 (by omega) (by omega)
  have c0 : ch (128 - 0) h = 0 := by
    unfold ch
    rw [if_pos (by omega), show 128 - 0 - 64 = 64 by omega]
    exact clip_top h hh
  have c1 : cl (128 - 0) l = 0 := by
    unfold cl
    rw [if_pos (by omega)]
  rw [c0, c1, show ((0 : Nat) : Int) = 0 from rfl] at this
  rw [show (128 - (m : Int)).toNat = 128 - m by omega]
  exact this
theorem rclip_bad {k : Nat} (hk : 1 ≤ k) (h l n : Int) (hn : n < 0 ∨ n > 128) : tenancyref01_Clip.f k h l n = some (0, 0, 0, false) := by
  obtain ⟨j, rfl⟩ : ∃ j, k = j + 1 := ⟨k - 1, by omega⟩
  unfold tenancyref01_Clip.f
  by_cases h0 : n < 0
  · rw [if_pos h0, tenancyref01_Clip.j0, if_pos rfl]
  · rw [if_neg h0, tenancyref01_Clip.j0, decide_eq_true (by omega), if_pos rfl]
theorem rsound_eq {k : Nat} (hk : 200 ≤ k) (h l : Nat) (hh : h < 18446744073709551616) (hl : l < 18446744073709551616) (n : Int) : tenancyref01_Sound.f k h l n = some (decide (snd h l n)) := by
  unfold tenancyref01_Sound.f
  by_cases hn : 0 ≤ n ∧ n ≤ 128
  · rw [rclip_eq hk h l hh hl n hn.1 hn.2, Option.bind_some, if_pos rfl]
    congr 1
    have hc := cheq (128 - n).toNat h l (by omega) hh hl
    rw [Bool.eq_iff_iff]
    simp only [Bool.and_eq_true, beq_iff_eq, decide_eq_true_eq, Int.natCast_inj]
    unfold snd
    rw [← hc]
    constructor
    · rintro ⟨⟨e1, e2⟩, _⟩; exact ⟨hn.1, hn.2, e1, e2⟩
    · rintro ⟨_, _, e1, e2⟩; exact ⟨⟨e1, e2⟩, trivial⟩
  · rw [rclip_bad (by omega) _ _ n (by omega), Option.bind_some, if_neg (by decide), decide_eq_false]
    unfold snd
    omega
theorem rsd_eq {k : Nat} (hk : 200 ≤ k) (a b n : Int) (ha : 0 ≤ a ∧ a < 18446744073709551616) (hb : 0 ≤ b ∧ b < 18446744073709551616) : tenancyref01_Sound.f k a b n = some (sd a b n) := by
  have := rsound_eq hk a.toNat b.toNat (by omega) (by omega) n
  rw [Int.toNat_of_nonneg ha.1, Int.toNat_of_nonneg hb.1] at this
  exact this
end Go.Proofs.Ythadapbekmmgpaa.O6


set_option linter.unusedVariables false
set_option linter.unusedSimpArgs false
namespace Go.Proofs.Ythadapbekmmgpaa.Oct
open Go.RowKit Go.Proofs.YthadapbekmmgpaaW.PrintWords Go.Proofs.YthadapbekmmgpaaW.PrintLast Go.Proofs.YthadapbekmmgpaaW.PrintMore Go.Proofs.Ythadapbekmmgpaa.X

theorem rcut (s : ByteArray) (at_ n : Int) (hs : s.size ≤ 4611686018427387904) (ha : -9223372036854775808 ≤ at_ ∧ at_ ≤ 9223372036854775807) (hn : -9223372036854775808 ≤ n ∧ n ≤ 9223372036854775807) :
    tenancyref04_Cut.f s at_ n = some (B (cutL (L s) at_ n), cutB (L s) at_ n) := by
  unfold tenancyref04_Cut.f cutL
  have hl : ((L s).length : Int) = s.size := by rw [size_L]
  by_cases h1 : at_ < 0
  · rw [if_pos h1]
    have hb : cutB (L s) at_ n = false := by simp only [cutB, decide_eq_false_iff_not]; omega
    rw [hb]; rfl
  by_cases h1b : n < 0
  · rw [if_neg h1, if_pos h1b]
    have hb : cutB (L s) at_ n = false := by simp only [cutB, decide_eq_false_iff_not]; omega
    rw [hb]; rfl
  rw [if_neg h1, if_neg h1b]
  by_cases h2 : at_ > (s.size : Int)
  · rw [if_pos h2]
    have hb : cutB (L s) at_ n = false := by simp only [cutB, decide_eq_false_iff_not]; omega
    rw [hb]; rfl
  rw [if_neg h2, w64 (n := (s.size : Int) - at_) (by omega)]
  by_cases h3 : n > (s.size : Int) - at_
  · rw [if_pos h3]
    have hb : cutB (L s) at_ n = false := by simp only [cutB, decide_eq_false_iff_not]; omega
    rw [hb]; rfl
  have hb : cutB (L s) at_ n = true := by simp only [cutB, decide_eq_true_eq]; omega
  rw [if_neg h3, w64 (n := at_ + n) (by omega), if_pos (by omega), if_pos (by omega), if_pos (by omega), hb, if_pos rfl]
  refine congrArg some (Prod.ext ?_ rfl)
  apply ext_L
  rw [L_extract, L_B]
  congr 1
  omega
theorem rloop (s : ByteArray) (b : Bool) (hl : (L s).length ≤ 4611686018427387904) (d : Nat) : ∀ (k i : Nat) (x : Int), (L s).length - i = d → i ≤ (L s).length → d < k → 0 ≤ x →
    tenancyref04_get.l0 k s b x (i : Int) = some (((L s).drop i).foldl (fun x c => (x * 256 + (c.toNat : Int)) % 18446744073709551616) x, b) := by
  have hsz : (s.size : Int) = (L s).length := by rw [size_L]
  induction d with
  | zero =>
    intro k i x hd hi hk h0
    obtain ⟨k, rfl⟩ : ∃ m, k = m + 1 := ⟨k - 1, by omega⟩
    rw [tenancyref04_get.l0, if_neg (by omega), List.drop_of_length_le (by omega)]
    rfl
  | succ d ih =>
    intro k i x hd hi hk h0
    obtain ⟨k, rfl⟩ : ∃ m, k = m + 1 := ⟨k - 1, by omega⟩
    have hlt : i < (L s).length := by omega
    have hc := (L s)[i].toNat_lt
    rw [tenancyref04_get.l0, if_pos (by omega), if_pos (by omega), bt_L s i hlt, w64 (by omega), drop_cons _ i hlt, List.foldl_cons, u64_wrap, u64_wrap, u64_wrap, ← Int.add_emod]
    exact ih k (i + 1) _ (by omega) (by omega) (by omega) (Int.emod_nonneg _ (by omega))
theorem rget {k : Nat} (hk : 10 ≤ k) (s : ByteArray) (at_ : Int) (n : Nat) (hn : n ≤ 8) (hs : s.size ≤ 4611686018427387904) (ha : -9223372036854775808 ≤ at_ ∧ at_ ≤ 9223372036854775807) : tenancyref04_get.f k s at_ (n : Int) = some (getN (L s) at_ n, cutB (L s) at_ n) := by
  have hr := getN_range (L s) at_ n
  have hc := cut_small (L s) at_ n
  unfold tenancyref04_get.f
  rw [rcut s at_ n hs ha (by omega)]
  simp only [Option.bind_some]
  rw [show ((0 : Int)) = ((0 : Nat) : Int) from rfl]
  rw [rloop (B (cutL (L s) at_ n)) _ (by rw [L_B]; omega) _ k 0 ((0 : Nat) : Int) rfl (by omega) (by rw [L_B]; omega) (by omega)]
  rw [List.drop_zero, L_B, show (((0 : Nat) : Int)) = (0 : Int) % 18446744073709551616 from rfl, fold_mod]
  refine congrArg some (Prod.ext ?_ rfl)
  show (num (cutL (L s) at_ n)) % 18446744073709551616 = getN (L s) at_ n
  unfold getN at hr ⊢
  have h8 : (256 : Nat) ^ n ≤ 256 ^ 8 := Nat.pow_le_pow_right (by omega) hn
  have h9 : ((256 ^ n : Nat) : Int) ≤ ((256 ^ 8 : Nat) : Int) := Int.ofNat_le.2 h8
  rw [Int.natCast_pow] at h9
  have h10 : ((256 ^ 8 : Nat) : Int) = 18446744073709551616 := by decide
  rw [h10] at h9
  exact Int.emod_eq_of_lt hr.1 (Int.lt_of_lt_of_le hr.2 h9)
theorem rget16 {k : Nat} (hk : 10 ≤ k) (s : ByteArray) (at_ : Int) (hs : s.size ≤ 4611686018427387904) (ha : -9223372036854775808 ≤ at_ ∧ at_ ≤ 9223372036854775807) : tenancyref04_Get16.f k s at_ = some (getN (L s) at_ 2, cutB (L s) at_ 2) := by
  have hr : 0 ≤ getN (L s) at_ 2 ∧ getN (L s) at_ 2 < 256 ^ 2 := getN_range (L s) at_ 2
  unfold tenancyref04_Get16.f
  rw [show (2 : Int) = ((2 : Nat) : Int) from rfl, rget hk s at_ 2 (by omega) hs ha]
  simp only [Option.bind_some]
  rw [u16_wrap]
  refine congrArg some (Prod.ext ?_ rfl)
  exact Int.emod_eq_of_lt hr.1 (by simpa using hr.2)
theorem rtakeRun {k : Nat} (hk : 10 ≤ k) (s : ByteArray) (at_ : Int) (hs : s.size ≤ 4611686018427387904) (ha : -9223372036854775808 ≤ at_ ∧ at_ ≤ 9223372036854775807) :
    tenancyref04_TakeRun.f k s at_ = some (B (takeL (L s) at_), takeTo (L s) at_, takeOk (L s) at_) := by
  have hl : ((L s).length : Int) = s.size := by rw [size_L]
  have hr : 0 ≤ getN (L s) at_ 2 ∧ getN (L s) at_ 2 < 256 ^ 2 := getN_range (L s) at_ 2
  have hr2 : getN (L s) at_ 2 < 65536 := by simpa using hr.2
  unfold tenancyref04_TakeRun.f takeL takeTo takeOk
  rw [rget16 hk s at_ hs ha]
  simp only [Option.bind_some]
  by_cases h1 : cutB (L s) at_ 2 = true
  · have hb := cutB_bound h1
    rw [if_pos h1, h1, w64 (n := at_ + 2) (by omega), w64 (n := getN (L s) at_ 2) (by omega), rcut s _ _ hs (by omega) (by omega)]
    simp only [Option.bind_some, Bool.true_and]
    by_cases h2 : cutB (L s) (at_ + 2) (getN (L s) at_ 2) = true
    · have hb2 := cutB_bound h2
      rw [if_pos h2, h2, if_pos rfl, if_pos rfl, w64 (by omega)]
    · replace h2 := Bool.eq_false_iff.mpr h2
      rw [h2, if_neg (by decide), if_neg (by decide), if_neg (by decide)]; rfl
  · replace h1 := Bool.eq_false_iff.mpr h1
    rw [h1, if_neg (by decide)]
    rfl
end Go.Proofs.Ythadapbekmmgpaa.Oct


set_option linter.unusedVariables false
set_option linter.unusedSimpArgs false
namespace Go.Proofs.Ythadapbekmmgpaa.Oct
open Go.RowKit Go.Proofs.YthadapbekmmgpaaW.PrintWords Go.Proofs.YthadapbekmmgpaaW.PrintLast Go.Proofs.YthadapbekmmgpaaW.PrintMore Go.Proofs.Ythadapbekmmgpaa.X

theorem rget32 {k : Nat} (hk : 10 ≤ k) (s : ByteArray) (at_ : Int) (hs : s.size ≤ 4611686018427387904) (ha : -9223372036854775808 ≤ at_ ∧ at_ ≤ 9223372036854775807) : tenancyref04_Get32.f k s at_ = some (getN (L s) at_ 4, cutB (L s) at_ 4) := by
  have hr : 0 ≤ getN (L s) at_ 4 ∧ getN (L s) at_ 4 < 256 ^ 4 := getN_range (L s) at_ 4
  unfold tenancyref04_Get32.f
  rw [show (4 : Int) = ((4 : Nat) : Int) from rfl, rget hk s at_ 4 (by omega) hs ha]
  simp only [Option.bind_some]
  refine congrArg some (Prod.ext ?_ rfl)
  exact Int.emod_eq_of_lt hr.1 (by simpa using hr.2)
theorem rget64 {k : Nat} (hk : 10 ≤ k) (s : ByteArray) (at_ : Int) (hs : s.size ≤ 4611686018427387904) (ha : -9223372036854775808 ≤ at_ ∧ at_ ≤ 9223372036854775807) : tenancyref04_Get64.f k s at_ = some (getN (L s) at_ 8, cutB (L s) at_ 8) := by
  unfold tenancyref04_Get64.f
  rw [show (8 : Int) = ((8 : Nat) : Int) from rfl, rget hk s at_ 8 (by omega) hs ha]
  rfl
theorem rgetAddr {k : Nat} (hk : 10 ≤ k) (s : ByteArray) (at_ : Int) (hs : s.size ≤ 4611686018427387904) (ha : -9223372036854775808 ≤ at_ ∧ at_ ≤ 9223372036854775807) :
    tenancyref04_GetAddr.f k s at_ = some (if cutB (L s) at_ 16 = true then (getN (cutL (L s) at_ 16) 0 8, getN (cutL (L s) at_ 16) 8 8, true) else (0, 0, false)) := by
  unfold tenancyref04_GetAddr.f
  rw [rcut s at_ 16 hs ha (by omega)]
  simp only [Option.bind_some]
  by_cases h : cutB (L s) at_ 16 = true
  · have hc : (cutL (L s) at_ 16).length ≤ 16 := cut_small (L s) at_ 16
    rw [if_pos h, if_pos h, rget64 hk _ 0 (by rw [size_B]; omega) (by omega), rget64 hk _ 8 (by rw [size_B]; omega) (by omega)]
    rfl
  · rw [if_neg h, if_neg h]
end Go.Proofs.Ythadapbekmmgpaa.Oct


set_option linter.unusedVariables false
set_option linter.unusedSimpArgs false
namespace Go.Proofs.Ythadapbekmmgpaa.O6
open Go Go.RowKit Go.Proofs.YthadapbekmmgpaaW.PrintWords Go.Proofs.YthadapbekmmgpaaW.PrintLast Go.Proofs.YthadapbekmmgpaaW.PrintMore Go.Proofs.Ythadapbekmmgpaa.X Go.Proofs.Ythadapbekmmgpaa.Oct
theorem rparse_go (s : ByteArray) (hs : s.size ≤ 4611686018427387904) (d : Nat) : ∀ (k : Nat) (acc : List S42) (i : Int), 0 ≤ i → i ≤ s.size → (s.size : Int) - i < d → 2 * (129 - acc.length) + 20 ≤ k → acc.length ≤ 128 →
    tenancyref15_Parse.l0 k s acc i = some (prs (L s) d acc i) := by
  have hsz : ((L s).length : Int) = s.size := by rw [size_L]
  induction d with
  | zero => intro k acc i h0 h1 hd; omega
  | succ d ih =>
    intro k acc i h0 h1 hd hk hacc
    obtain ⟨k, rfl⟩ : ∃ m, k = m + 2 := ⟨k - 2, by omega⟩
    rw [tenancyref15_Parse.l0, prs]
    by_cases hlt : i < (s.size : Int)
    · rw [if_pos hlt, if_pos (by rw [hsz]; exact hlt), rget16 (by omega) s i hs (by omega), Option.bind_some, w64 (n := i + 2) (by omega), rtakeRun (by omega) s (i + 2) hs (by omega), Option.bind_some]
      dsimp only
      have hj : ∀ b, tenancyref15_Parse.j1 (k + 1) s acc (getN (L s) i 2) (B (takeL (L s) (i + 2))) (takeTo (L s) (i + 2)) b = if b = true then some (([] : List S42), 3) else if 128 ≤ acc.length then some ([], 6) else tenancyref15_Parse.l0 k s (acc ++ [⟨getN (L s) i 2, B (takeL (L s) (i + 2))⟩]) (takeTo (L s) (i + 2)) := by
        intro b
        rw [tenancyref15_Parse.j1]
        by_cases hb : b = true
        · rw [if_pos hb, if_pos hb]
        · rw [if_neg hb, if_neg hb]
          by_cases h128 : 128 ≤ acc.length
          · rw [if_pos (by omega), if_pos h128]
          · rw [if_neg (by omega), if_neg h128, if_pos (by omega)]
      by_cases hc : cutB (L s) i 2 = true
      · rw [if_pos hc, hj]
        by_cases ht : takeOk (L s) (i + 2) = true
        · rw [if_neg (by rw [ht]; decide), if_pos (show cutB (L s) i 2 = true ∧ takeOk (L s) (i + 2) = true from ⟨hc, ht⟩)]
          have hb := take_bound ht
          by_cases h128 : 128 ≤ acc.length
          · rw [if_pos h128, if_pos h128]
          · rw [if_neg h128, if_neg h128]
            exact ih k _ _ (by omega) (by omega) (by omega) (by rw [List.length_append, List.length_singleton]; omega) (by rw [List.length_append, List.length_singleton]; omega)
        · rw [if_pos (by rw [Bool.eq_false_iff.2 ht]; rfl), if_neg (fun h => ht h.2)]
      · rw [if_neg hc, hj, if_pos rfl, if_neg (fun h => hc h.1)]
    · rw [if_neg hlt, if_neg (by rw [hsz]; exact hlt)]
theorem rparse_eq (s : ByteArray) (hs : s.size ≤ 4611686018427387904) (k : Nat) (hk : 300 ≤ k) : tenancyref15_Parse.f k s = some (opts (L s)) := by
  unfold tenancyref15_Parse.f opts
  rw [rparse_go s hs (s.size + 1) k [] 0 (by omega) (by omega) (by omega) (by simp; omega) (by decide), size_L]
theorem rgetStatus_eq (s : ByteArray) (hs : s.size ≤ 4611686018427387904) (k : Nat) (hk : 12 ≤ k) : tenancyref15_GetStatus.f k s = some (if cutB (L s) 0 2 = true then (getN (L s) 0 2, true) else (-1, false)) := by
  unfold tenancyref15_GetStatus.f
  rw [rget16 (by omega) s 0 hs (by omega), Option.bind_some]
  dsimp only
  by_cases h : cutB (L s) 0 2 = true
  · have hr : 0 ≤ getN (L s) 0 2 ∧ getN (L s) 0 2 < 65536 := by have := getN_range (L s) 0 2; simpa using this
    rw [if_pos h, if_pos h, w64 (by omega)]
  · rw [if_neg h, if_neg h]
end Go.Proofs.Ythadapbekmmgpaa.O6


set_option linter.unusedVariables false
set_option linter.unusedSimpArgs false
namespace Go.Proofs.Ythadapbekmmgpaa.O6
open Go Go.RowKit Go.Proofs.YthadapbekmmgpaaW.PrintWords Go.Proofs.YthadapbekmmgpaaW.PrintLast Go.Proofs.YthadapbekmmgpaaW.PrintMore Go.Proofs.Ythadapbekmmgpaa.X Go.Proofs.Ythadapbekmmgpaa.Oct Go.Proofs.Ythadapbekmmgpaa.Adr Go.Proofs.Ythadapbekmmgpaa.Pre
theorem rword_eq (s : ByteArray) (at_ : Int) (hs : s.size ≤ 4611686018427387904) (ha : -9223372036854775808 ≤ at_ ∧ at_ ≤ 9223372036854775807) (k : Nat) (hk : 12 ≤ k) : tenancyref15_word.f k s at_ = some (getN (L s) at_ 4) := by
  unfold tenancyref15_word.f
  rw [rget32 (by omega) s at_ hs ha, Option.bind_some]
def stR (r : Option Int) : Int × Int := match r with | some c => (c, 0) | none => (0, 130)
theorem rst_go (zs : List S42) (hz : zs.length ≤ 128) (hs : ∀ x ∈ zs, okS x) (d : Nat) : ∀ (k i : Nat) (cur : Int), zs.length - i = d → i ≤ zs.length → d + 20 ≤ k → (cur = -1 ∨ 0 ≤ cur) →
    tenancyref15_statuses.l0 k zs cur (i : Int) = some (stR (stL (zs.drop i) cur)) := by
  induction d with
  | zero =>
    intro k i cur hd hi hk hc
    obtain ⟨k, rfl⟩ : ∃ m, k = m + 1 := ⟨k - 1, by omega⟩
    rw [tenancyref15_statuses.l0, if_neg (by omega), List.drop_of_length_le (by omega)]
    rfl
  | succ d ih =>
    intro k i cur hd hi hk hc
    obtain ⟨k, rfl⟩ : ∃ m, k = m + 1 := ⟨k - 1, by omega⟩
    have hlt : i < zs.length := by omega
    have hx : okS (rd_T42 zs (i : Int)) := hs _ (by
      have : rd_T42 zs (i : Int) = zs[i] := by simp [rd_T42, List.getD_eq_getElem?_getD, List.getElem?_eq_getElem hlt]
      rw [this]; exact List.getElem_mem hlt)
    have hn := fun c h => ih k (i + 1) c (by omega) (by omega) (by omega) h
    rw [tenancyref15_statuses.l0, if_pos (by omega), if_pos (by omega), drop_at zs i hlt, stL, w64 (by omega)]
    rw [show ((i : Int) + 1) = ((i + 1 : Nat) : Int) from rfl]
    generalize rd_T42 zs (i : Int) = x at hx ⊢
    by_cases h13 : x.f0 = 13
    · rw [if_pos h13, if_pos h13, rgetStatus_eq _ hx k (by omega), Option.bind_some]
      by_cases hcb : cutB (L x.f1) 0 2 = true
      · have hg := getN2 (L x.f1) 0
        rw [if_pos hcb, if_pos hcb]
        dsimp only
        rw [if_pos rfl]
        rcases hc with rfl | hc
        · rw [if_pos (by omega), if_pos rfl]
          exact hn _ (.inr hg.1)
        · rw [if_neg (by omega), if_neg (by omega)]
          exact hn _ (.inr hc)
      · rw [if_neg hcb, if_neg hcb]
        rfl
    · rw [if_neg h13, if_neg h13]
      exact hn _ hc
def riT (r : Except Int S58) : Int × Int × Int × Int × Int × Int × Int := match r with
  | .ok x => (x.f0.f0.f0, x.f0.f0.f1, x.f0.f1, x.f1, x.f2, x.f3, 0)
  | .error e => (0, 0, 0, 0, 0, 0, e)
theorem rj2_eq (k : Nat) (hk : 301 ≤ k) (data : ByteArray) (hd : data.size ≤ 4611686018427387904) (size : Nat) (hs : size ≤ data.size) (a0 a1 bits p v c0 : Int) (hsd : sd a0 a1 bits = true) :
    tenancyref15_inner.j2 k data size a0 a1 bits p v c0 = some (riT (rdT (L data) size a0 a1 bits p v)) := by
  obtain ⟨k, rfl⟩ : ∃ m, k = m + 1 := ⟨k - 1, by omega⟩
  rw [tenancyref15_inner.j2, if_pos (by omega), if_pos (by omega), Int.toNat_natCast, rparse_eq _ (by rw [ByteArray.size_extract]; omega) k (by omega), Option.bind_some, extract_from]
  unfold rdT
  rw [if_pos hsd]
  have hok := opts_ok ((L data).drop size)
  by_cases he : (opts ((L data).drop size)).2 = 0
  · rw [if_pos he, if_pos he]
    unfold tenancyref15_statuses.f
    rw [show (0 : Int) = ((0 : Nat) : Int) from rfl, rst_go _ hok.2 (fun x hx => okO_S (hok.1 x hx)) _ k 0 (-1) rfl (by omega) (by omega) (.inl rfl), Option.bind_some, List.drop_zero]
    cases stL (opts ((L data).drop size)).1 (-1) <;> rfl
  · rw [if_neg he, if_neg he]
    rfl
theorem rinner_eq (k : Nat) (hk : 400 ≤ k) (kind : Int) (data : ByteArray) (hd : data.size ≤ 4611686018427387904) : tenancyref15_inner.f k kind data = some (riT (rdI kind (L data))) := by
  obtain ⟨k, rfl⟩ : ∃ m, k = m + 2 := ⟨k - 2, by omega⟩
  unfold tenancyref15_inner.f rdI
  by_cases h4 : kind = 4
  · rw [if_pos h4, if_pos h4, tenancyref15_inner.j0, rcut data 0 25 hd (by omega) (by omega), Option.bind_some]
    by_cases hc : cutB (L data) 0 25 = true
    · have hb := cutB_bound hc
      have hl : (cutL (L data) 0 25).length = 25 := by rw [cutL_length, if_pos hc]; rfl
      have hc16 : cutB (cutL (L data) 0 25) 9 16 = true := by simp only [cutB, decide_eq_true_eq, hl]; omega
      have hz : (B (cutL (L data) 0 25)).size ≤ 4611686018427387904 := by rw [size_B, hl]; omega
      have e8 := bt_getD (B (cutL (L data) 0 25)) 8 (by rw [size_B, hl]; omega)
      have ga9 : ga (cutL (L data) 0 25) 9 = (getN (cutL (cutL (L data) 0 25) 9 16) 0 8, getN (cutL (cutL (L data) 0 25) 9 16) 8 8) := rfl
      dsimp only
      rw [hc, if_pos rfl, if_pos rfl, rword_eq _ 0 hz (by omega) _ (by omega), Option.bind_some, w64 (by omega), show ((0 : Int) + 4) = 4 from rfl, rword_eq _ 4 hz (by omega) _ (by omega), Option.bind_some, if_pos h4, if_pos (by rw [size_B, hl]; omega), show (8 : Int) = ((8 : Nat) : Int) from rfl, e8, w64 (byte_range _), tenancyref15_inner.j1, rgetAddr (by omega) _ 9 hz (by omega), Option.bind_some, L_B, if_pos hc16]
      dsimp only
      rw [if_pos h4, rsd_eq (by omega) _ _ _ (getN8 _ _) (getN8 _ _), Option.bind_some, ga9]
      dsimp only
      cases hsd : sd (getN (cutL (cutL (L data) 0 25) 9 16) 0 8) (getN (cutL (cutL (L data) 0 25) 9 16) 8 8) (((cutL (L data) 0 25).getD 8 0).toNat : Int) with
      | false =>
        unfold rdT
        rw [hsd]
        rfl
      | true =>
        rw [if_pos rfl]
        exact rj2_eq k (by omega) data hd 25 (by rw [size_L]; omega) _ _ _ _ _ _ hsd
    · dsimp only
      rw [if_neg hc, if_neg hc]
      rfl
  · rw [if_neg h4, if_neg h4, tenancyref15_inner.j0, rcut data 0 24 hd (by omega) (by omega), Option.bind_some]
    by_cases hc : cutB (L data) 0 24 = true
    · have hb := cutB_bound hc
      have hl : (cutL (L data) 0 24).length = 24 := by rw [cutL_length, if_pos hc]; rfl
      have hc16 : cutB (cutL (L data) 0 24) 0 16 = true := by simp only [cutB, decide_eq_true_eq, hl]; omega
      have hz : (B (cutL (L data) 0 24)).size ≤ 4611686018427387904 := by rw [size_B, hl]; omega
      dsimp only
      rw [hc, if_pos rfl, if_pos rfl, rword_eq _ 16 hz (by omega) _ (by omega), Option.bind_some, w64 (by omega), show ((16 : Int) + 4) = 20 from rfl, rword_eq _ 20 hz (by omega) _ (by omega), Option.bind_some, if_neg h4, tenancyref15_inner.j1, rgetAddr (by omega) _ 0 hz (by omega), Option.bind_some, L_B, if_pos hc16]
      dsimp only
      rw [if_neg h4]
      exact rj2_eq k (by omega) data hd 24 (by rw [size_L]; omega) _ _ _ _ _ _ (sd_128 _ _)
    · dsimp only
      rw [if_neg hc, if_neg hc]
      rfl
def goT (kind t0 t1 t2 : Int) (r : Except Int (List S58 × Int)) : Int × Int × Int × Int × List S58 × Int × Int := match r with
  | .ok y => (kind, t0, t1, t2, y.1, y.2, 0)
  | .error e => (0, 0, 0, 0, [], 0, e)
theorem rgl_go (kind part t0 t1 t2 : Int) (hp : part ≠ 13) (zs : List S42) (hz : zs.length ≤ 128) (hs : ∀ x ∈ zs, okS x) (d : Nat) : ∀ (k i : Nat) (has : List S58) (cur : Int), zs.length - i = d → i ≤ zs.length → 2 * d + 420 ≤ k → has.length ≤ 8 → (cur = -1 ∨ 0 ≤ cur) →
    tenancyref15_GetIA.l0 k part zs (i : Int) kind t0 t1 t2 has cur = some (goT kind t0 t1 t2 (glL kind part (zs.drop i) has cur)) := by
  induction d with
  | zero =>
    intro k i has cur hd hi hk hh hc
    obtain ⟨k, rfl⟩ : ∃ m, k = m + 1 := ⟨k - 1, by omega⟩
    rw [tenancyref15_GetIA.l0, if_neg (by omega), List.drop_of_length_le (by omega)]
    rfl
  | succ d ih =>
    intro k i has cur hd hi hk hh hc
    obtain ⟨k, rfl⟩ : ∃ m, k = m + 2 := ⟨k - 2, by omega⟩
    have hlt : i < zs.length := by omega
    have hx : okS (rd_T42 zs (i : Int)) := hs _ (by
      have : rd_T42 zs (i : Int) = zs[i] := by simp [rd_T42, List.getD_eq_getElem?_getD, List.getElem?_eq_getElem hlt]
      rw [this]; exact List.getElem_mem hlt)
    have hn := fun hs c h1 h2 => ih k (i + 1) hs c (by omega) (by omega) (by omega) h1 h2
    have hj : ∀ c, tenancyref15_GetIA.j3 (k + 1) part zs (i : Int) kind t0 t1 t2 has c = if (rd_T42 zs (i : Int)).f0 = part then (if 8 ≤ has.length then some (0, 0, 0, 0, [], 0, 6) else (some (riT (rdI kind (L (rd_T42 zs (i : Int)).f1)))).bind fun b => if b.2.2.2.2.2.2 = 0 then tenancyref15_GetIA.l0 k part zs ((i + 1 : Nat) : Int) kind t0 t1 t2 (has ++ [⟨⟨⟨b.1, b.2.1⟩, b.2.2.1⟩, b.2.2.2.1, b.2.2.2.2.1, b.2.2.2.2.2.1⟩]) c else some (0, 0, 0, 0, [], 0, b.2.2.2.2.2.2)) else tenancyref15_GetIA.l0 k part zs ((i + 1 : Nat) : Int) kind t0 t1 t2 has c := fun c => by
      rw [tenancyref15_GetIA.j3, if_pos (by omega), if_pos (by omega), w64 (by omega)]
      by_cases hpp : (rd_T42 zs (i : Int)).f0 = part
      · rw [if_pos hpp, if_pos hpp]
        by_cases h8 : 8 ≤ has.length
        · rw [if_pos (by omega), if_pos h8]
        · rw [if_neg (by omega), if_neg h8, rinner_eq k (by omega) kind _ hx, Option.bind_some, Option.bind_some]
          simp only [show has.length < 3518437208883 from by omega, if_true]
          rfl
      · rw [if_neg hpp, if_neg hpp]
        rfl
    rw [tenancyref15_GetIA.l0, if_pos (by omega), if_pos (by omega), drop_at zs i hlt, glL]
    simp only [hj]
    clear hj
    generalize rd_T42 zs (i : Int) = x at hx ⊢
    by_cases h13 : x.f0 = 13
    · have hnp : ¬ x.f0 = part := fun e => hp (by rw [← e, h13])
      rw [if_pos h13, if_pos h13, rgetStatus_eq _ hx (k + 1) (by omega), Option.bind_some]
      by_cases hcb : cutB (L x.f1) 0 2 = true
      · have hg := getN2 (L x.f1) 0
        rw [if_pos hcb, if_pos hcb]
        dsimp only
        rw [if_pos rfl, if_neg hnp, if_neg hnp]
        rcases hc with rfl | hc
        · rw [if_pos (by omega), if_pos rfl]
          exact hn _ _ hh (.inr hg.1)
        · rw [if_neg (by omega), if_neg (by omega)]
          exact hn _ _ hh (.inr hc)
      · rw [if_neg hcb, if_neg hcb]
        rfl
    · rw [if_neg h13, if_neg h13]
      by_cases hpp : x.f0 = part
      · rw [if_pos hpp, if_pos hpp]
        by_cases h8 : 8 ≤ has.length
        · rw [if_pos h8, if_pos h8]
          rfl
        · rw [if_neg h8, if_neg h8, Option.bind_some]
          cases hr : rdI kind (L x.f1) with
          | error e => 
            have he := rdI_err hr
            show (if e = 0 then _ else _) = _
            rw [if_neg he]
            rfl
          | ok y =>
            show (if (0 : Int) = 0 then _ else _) = _
            rw [if_pos rfl]
            exact hn (has ++ [y]) _ (by rw [List.length_append, List.length_singleton]; omega) hc
      · rw [if_neg hpp, if_neg hpp]
        exact hn _ _ hh hc
theorem rj1_eq (k : Nat) (hk : 800 ≤ k) (kind part code : Int) (hp : part ≠ 13) (size : Nat) (data : ByteArray) (hd : data.size ≤ 4611686018427387904) (hs : size ≤ data.size) (t0 t1 t2 : Int) :
    tenancyref15_GetIA.j1 k size part code data kind t0 t1 t2 (-1) = some (if (opts ((L data).drop size)).2 = 0 then goT kind t0 t1 t2 (glL kind part (opts ((L data).drop size)).1 [] (-1)) else (0, 0, 0, 0, [], 0, (opts ((L data).drop size)).2)) := by
  obtain ⟨k, rfl⟩ : ∃ m, k = m + 1 := ⟨k - 1, by omega⟩
  have hok := opts_ok ((L data).drop size)
  rw [tenancyref15_GetIA.j1, if_pos (by omega), if_pos (by omega), Int.toNat_natCast, rparse_eq _ (by rw [ByteArray.size_extract]; omega) k (by omega), Option.bind_some, extract_from]
  by_cases he : (opts ((L data).drop size)).2 = 0
  · rw [if_pos he, if_pos he]
    exact rgl_go kind part t0 t1 t2 hp _ hok.2 (fun x hx => okO_S (hok.1 x hx)) _ k 0 [] (-1) rfl (by omega) (by omega) (by simp) (.inl rfl)
  · rw [if_neg he, if_neg he]
theorem goT_O (kind t0 t1 t2 : Int) (r : Except Int (List S58 × Int)) : goT kind t0 t1 t2 r = getO kind (match r with | .ok y => .ok (t0, t1, t2, y.1, y.2) | .error e => .error e) := by cases r <;> rfl
theorem rGet_eq (k : Nat) (hk : 900 ≤ k) (code : Int) (data : ByteArray) (hd : data.size ≤ 4611686018427387904) : tenancyref15_GetIA.f k code data = some (gI code (L data)) := by
  obtain ⟨k, rfl⟩ : ∃ m, k = m + 1 := ⟨k - 1, by omega⟩
  have g12 : ∀ (kind part : Int), part ≠ 13 → tenancyref15_GetIA.j0 (k + 1) 12 part code data kind 0 0 0 (-1) = some (getO kind (gB kind 12 part (L data))) := fun kind part hp => by
    rw [tenancyref15_GetIA.j0, rcut data 0 12 hd (by omega) (by omega), Option.bind_some]
    unfold gB
    by_cases hc : cutB (L data) 0 12 = true
    · have hb := cutB_bound hc
      have hl : (cutL (L data) 0 12).length = 12 := by rw [cutL_length, if_pos hc]; rfl
      have hz : (B (cutL (L data) 0 12)).size ≤ 4611686018427387904 := by rw [size_B, hl]; omega
      have j1 := rj1_eq k (by omega) kind part code hp 12 data hd (by rw [size_L]; omega) (getN (cutL (L data) 0 12) 0 4) (getN (cutL (L data) 0 12) 4 4) (getN (cutL (L data) 0 12) 8 4)
      dsimp only
      rw [hc, if_pos rfl, rword_eq _ 0 hz (by omega) _ (by omega), Option.bind_some, if_pos rfl, rword_eq _ 4 hz (by omega) _ (by omega), Option.bind_some, rword_eq _ 8 hz (by omega) _ (by omega), Option.bind_some, L_B]
      refine Eq.trans j1 ?_
      rw [if_pos (show cutB (L data) 0 ((12 : Nat) : Int) = true from hc)]
      by_cases he : (opts ((L data).drop 12)).2 = 0
      · rw [if_pos he, if_pos he, goT_O]
        rfl
      · rw [if_neg he, if_neg he]
        rfl
    · dsimp only
      rw [if_neg hc, if_neg (show ¬ cutB (L data) 0 ((12 : Nat) : Int) = true from hc)]
      rfl
  unfold tenancyref15_GetIA.f gI
  by_cases h3 : code = 3
  · rw [if_pos h3, if_pos h3, g12 2 5 (by decide)]
  · rw [if_neg h3, if_neg h3]
    by_cases h4 : code = 4
    · rw [if_pos h4, if_pos h4, tenancyref15_GetIA.j0, rcut data 0 4 hd (by omega) (by omega), Option.bind_some]
      unfold gB
      by_cases hc : cutB (L data) 0 4 = true
      · have hb := cutB_bound hc
        have hl : (cutL (L data) 0 4).length = 4 := by rw [cutL_length, if_pos hc]; rfl
        have hz : (B (cutL (L data) 0 4)).size ≤ 4611686018427387904 := by rw [size_B, hl]; omega
        have j1 := rj1_eq k (by omega) 3 5 code (by decide) 4 data hd (by rw [size_L]; omega) (getN (cutL (L data) 0 4) 0 4) 0 0
        have s1 := short4 (cutL (L data) 0 4) 4 (by decide) (by omega)
        have s2 := short4 (cutL (L data) 0 4) 8 (by decide) (by omega)
        dsimp only
        rw [hc, if_pos rfl, rword_eq _ 0 hz (by omega) _ (by omega), Option.bind_some, if_neg (by decide), L_B]
        refine Eq.trans j1 ?_
        rw [if_pos (show cutB (L data) 0 ((4 : Nat) : Int) = true from hc)]
        by_cases he : (opts ((L data).drop 4)).2 = 0
        · rw [if_pos he, if_pos he, goT_O]
          rw [show getN (cutL (L data) 0 ((4 : Nat) : Int)) 4 4 = 0 from s1, show getN (cutL (L data) 0 ((4 : Nat) : Int)) 8 4 = 0 from s2]
          rfl
        · rw [if_neg he, if_neg he]
          rfl
      · dsimp only
        rw [if_neg hc, if_neg (show ¬ cutB (L data) 0 ((4 : Nat) : Int) = true from hc)]
        rfl
    · rw [if_neg h4, if_neg h4]
      by_cases h25 : code = 25
      · rw [if_pos h25, if_pos h25, g12 4 26 (by decide)]
      · rw [if_neg h25, if_neg h25]
end Go.Proofs.Ythadapbekmmgpaa.O6


set_option linter.unusedVariables false
set_option linter.unusedSimpArgs false
namespace Go.Proofs.Ythadapbekmmgpaa.O6
open Go Go.RowKit Go.Proofs.YthadapbekmmgpaaW.PrintWords Go.Proofs.YthadapbekmmgpaaW.PrintLast Go.Proofs.YthadapbekmmgpaaW.PrintMore Go.Proofs.Ythadapbekmmgpaa.X Go.Proofs.Ythadapbekmmgpaa.Oct
theorem rown16_eq (c : Int) : tenancyref16_own.f c = some (ownB c) := by
  unfold tenancyref16_own.f ownB
  simp only [List.contains_cons, List.contains_nil, Bool.or_false]
  by_cases h1 : c = 1
  · rw [if_pos h1, h1]; rfl
  rw [if_neg h1, (by simpa using h1 : (c == 1) = false)]
  by_cases h2 : c = 2
  · rw [if_pos h2, h2]; rfl
  rw [if_neg h2, (by simpa using h2 : (c == 2) = false)]
  by_cases h3 : c = 3
  · rw [if_pos h3, h3]; rfl
  rw [if_neg h3, (by simpa using h3 : (c == 3) = false)]
  by_cases h4 : c = 4
  · rw [if_pos h4, h4]; rfl
  rw [if_neg h4, (by simpa using h4 : (c == 4) = false)]
  by_cases h5 : c = 13
  · rw [if_pos h5, h5]; rfl
  rw [if_neg h5, (by simpa using h5 : (c == 13) = false)]
  by_cases h6 : c = 14
  · rw [if_pos h6, h6]; rfl
  rw [if_neg h6, (by simpa using h6 : (c == 14) = false)]
  by_cases h7 : c = 19
  · rw [if_pos h7, h7]; rfl
  rw [if_neg h7, (by simpa using h7 : (c == 19) = false)]
  by_cases h8 : c = 20
  · rw [if_pos h8, h8]; rfl
  rw [if_neg h8, (by simpa using h8 : (c == 20) = false)]
  by_cases h9 : c = 25
  · rw [if_pos h9, h9]; rfl
  rw [if_neg h9, (by simpa using h9 : (c == 25) = false)]
  rfl
def anyC (l : List S42) (c : Int) : Bool := l.any (fun o => o.f0 == c)
theorem any_rv (l : List S42) (c : Int) : anyC l c = (rvC l []).contains c := by
  unfold rvC anyC
  rw [List.append_nil, Bool.eq_iff_iff, List.any_eq_true, List.contains_iff_mem, List.mem_reverse, List.mem_map]
  constructor
  · rintro ⟨x, hx, e⟩; exact ⟨x, hx, by simpa using e⟩
  · rintro ⟨x, hx, e⟩; exact ⟨x, hx, by simpa using e⟩
theorem met_go (l : List S42) (c : Int) (n : Nat) (hn : n ≤ l.length) (hl : l.length ≤ 1000000) (d : Nat) : ∀ (k i : Nat), n - i = d → i ≤ n → d + 1 ≤ k → tenancyref16_met.l0 k l (n : Int) c (i : Int) = some (anyC ((l.take n).drop i) c) := by
  induction d with
  | zero =>
    intro k i hd hi hk
    obtain ⟨k, rfl⟩ : ∃ m, k = m + 1 := ⟨k - 1, by omega⟩
    rw [tenancyref16_met.l0, if_neg (by omega), List.drop_of_length_le (by rw [List.length_take]; omega)]
    rfl
  | succ d ih =>
    intro k i hd hi hk
    obtain ⟨k, rfl⟩ : ∃ m, k = m + 1 := ⟨k - 1, by omega⟩
    have hlt : i < l.length := by omega
    have hr : rd_T42 l (i : Int) = l[i] := by simp [rd_T42, List.getD_eq_getElem?_getD, List.getElem?_eq_getElem hlt]
    have hd2 : (l.take n).drop i = l[i] :: (l.take n).drop (i + 1) := by
      rw [List.drop_eq_getElem_cons (by rw [List.length_take]; omega)]
      congr 1
      exact List.getElem_take
    rw [tenancyref16_met.l0, if_pos (by omega), if_pos (by omega), if_pos (by omega), hr, hd2]
    unfold anyC
    rw [List.any_cons]
    by_cases hx : l[i].f0 = c
    · rw [if_pos hx, beq_iff_eq.2 hx, Bool.true_or]
    · rw [if_neg hx, w64 (by omega), (by simpa using hx : (l[i].f0 == c) = false), Bool.false_or]
      exact ih k (i + 1) (by omega) (by omega) (by omega)
theorem rtw_eq (pre l : List S42) (c : Int) (hl : (pre ++ l).length ≤ 1000000) (k : Nat) (hk : pre.length + 1 ≤ k) : w6rtw k (pre ++ l) pre.length c = some (ownB c && !(c == 3 || c == 4 || c == 25) && (rvC pre []).contains c) := by
  unfold w6rtw
  rw [rown16_eq, Option.bind_some]
  by_cases h : ownB c = true ∧ ¬ c = 3 ∧ ¬ c = 4 ∧ ¬ c = 25
  · rw [if_pos h]
    unfold tenancyref16_met.f
    have := met_go (pre ++ l) c pre.length (by rw [List.length_append]; omega) hl pre.length k 0 (by omega) (by omega) (by omega)
    rw [List.drop_zero, List.take_append_of_le_length (Nat.le_refl _), List.take_of_length_le (Nat.le_refl _)] at this
    rw [show ((0 : Nat) : Int) = 0 from rfl] at this
    rw [this, any_rv, h.1, (by simpa using h.2.1 : (c == 3) = false), (by simpa using h.2.2.1 : (c == 4) = false), (by simpa using h.2.2.2 : (c == 25) = false)]
    rfl
  · rw [if_neg h]
    have : (ownB c && !(c == 3 || c == 4 || c == 25)) = false := by
      cases ho : ownB c with
      | false => rfl
      | true =>
        rw [Bool.true_and, Bool.not_eq_false']
        simp only [Bool.or_eq_true, beq_iff_eq]
        by_cases q3 : c = 3
        · exact .inl (.inl q3)
        by_cases q4 : c = 4
        · exact .inl (.inr q4)
        by_cases q5 : c = 25
        · exact .inr q5
        · exact absurd ⟨ho, q3, q4, q5⟩ h
    rw [this, Bool.false_and]
theorem size_empty (s : ByteArray) : (s.toList = ([] : List UInt8)) ↔ s.size = 0 := by
  rw [toList_L, size_L]
  cases L s <;> simp
theorem rd1 {m : Ms} {o : S42} {b : Bool} (h : o.f0 = 1) : rdM m o b = ({ m with cl := o.f1 }, w6only (w6size o.f1) b) := by unfold rdM; rw [if_pos h]
theorem rd2 {m : Ms} {o : S42} {b : Bool} (h : o.f0 = 2) : rdM m o b = ({ m with sv := o.f1 }, w6only (w6size o.f1) b) := by unfold rdM; rw [if_neg (by omega), if_pos h]
theorem rd13 {m : Ms} {o : S42} {b : Bool} (h : o.f0 = 13) : rdM m o b = ({ m with code := (if cutB (L o.f1) 0 2 = true then getN (L o.f1) 0 2 else -1) }, w6only (cutB (L o.f1) 0 2) b) := by unfold rdM; rw [if_neg (by omega), if_neg (by omega), if_pos h]
theorem rd14 {m : Ms} {o : S42} {b : Bool} (h : o.f0 = 14) : rdM m o b = ({ m with rap := true }, w6only ((o.f1.size : Int) == 0) b) := by unfold rdM; rw [if_neg (by omega), if_neg (by omega), if_neg (by omega), if_pos h]
theorem rd20 {m : Ms} {o : S42} {b : Bool} (h : o.f0 = 20) : rdM m o b = ({ m with acc := true }, w6only ((o.f1.size : Int) == 0) b) := by unfold rdM; rw [if_neg (by omega), if_neg (by omega), if_neg (by omega), if_neg (by omega), if_pos h]
theorem rd19 {m : Ms} {o : S42} {b : Bool} (h : o.f0 = 19) : rdM m o b = (if (o.f1.size : Int) = 1 then ({ m with again := bt o.f1 0 }, w6only (w6again (bt o.f1 0)) b) else (m, 130)) := by unfold rdM; rw [if_neg (by omega), if_neg (by omega), if_neg (by omega), if_neg (by omega), if_neg (by omega), if_pos h]
theorem rdA {m : Ms} {o : S42} {b : Bool} (h : o.f0 = 3 ∨ o.f0 = 4 ∨ o.f0 = 25) : rdM m o b = (if m.ias.length < 8 then ({ m with ias := m.ias ++ [iaP (gI o.f0 (L o.f1))] }, (gI o.f0 (L o.f1)).2.2.2.2.2.2) else (m, 6)) := by unfold rdM; rw [if_neg (by omega), if_neg (by omega), if_neg (by omega), if_neg (by omega), if_neg (by omega), if_neg (by omega), if_pos h]
theorem rdO {m : Ms} {o : S42} {b : Bool} (h : ¬ o.f0 = 1 ∧ ¬ o.f0 = 2 ∧ ¬ o.f0 = 13 ∧ ¬ o.f0 = 14 ∧ ¬ o.f0 = 20 ∧ ¬ o.f0 = 19 ∧ ¬ (o.f0 = 3 ∨ o.f0 = 4 ∨ o.f0 = 25)) : rdM m o b = ({ m with opts := m.opts ++ [o] }, 0) := by unfold rdM; rw [if_neg (by omega), if_neg (by omega), if_neg (by omega), if_neg (by omega), if_neg (by omega), if_neg (by omega), if_neg h.2.2.2.2.2.2]
theorem sizeF {s : ByteArray} (hz : (s.size : Int) < 1 ∨ (s.size : Int) > 130) : w6size s = false := by
  unfold w6size
  rcases hz with h | h
  · rw [decide_eq_false (by omega), Bool.false_and]
  · rw [decide_eq_false (p := (s.size : Int) ≤ 130) (by omega), Bool.and_false]
theorem sizeT {s : ByteArray} (hz : ¬ ((s.size : Int) < 1 ∨ (s.size : Int) > 130)) : w6size s = true := by
  unfold w6size
  rw [decide_eq_true (by omega), decide_eq_true (by omega)]; rfl
theorem no130 {P : Prop} (h : (130 : Int) = 0) : P := absurd h (by decide)
theorem no6 {P : Prop} (h : (6 : Int) = 0) : P := absurd h (by decide)
/-- 'one' is a reading that has not come before; where it fails, the error is the same. -/
theorem one_eq (m : Ms) (o : S42) (hs : o.f1.size ≤ 4611686018427387904) (hl : m.opts.length < 1000000) (k : Nat) (hk : 1000 ≤ k) : ∃ p, tenancyref16_one.f k m o.f0 o.f1 = some p ∧ p.2 = (rdM m o false).2 ∧ (p.2 = 0 → p.1 = (rdM m o false).1) := by
  unfold tenancyref16_one.f
  by_cases h1 : o.f0 = 1
  · rw [if_pos (.inl h1), rd1 h1]
    by_cases hz : (o.f1.size : Int) < 1 ∨ (o.f1.size : Int) > 130
    · rw [if_pos hz, sizeF hz]
      exact ⟨_, rfl, rfl, fun h => no130 h⟩
    · rw [if_neg hz, if_pos h1, sizeT hz]
      exact ⟨_, rfl, rfl, fun _ => rfl⟩
  by_cases h2 : o.f0 = 2
  · rw [if_pos (.inr h2), rd2 h2]
    by_cases hz : (o.f1.size : Int) < 1 ∨ (o.f1.size : Int) > 130
    · rw [if_pos hz, sizeF hz]
      exact ⟨_, rfl, rfl, fun h => no130 h⟩
    · rw [if_neg hz, if_neg h1, sizeT hz]
      exact ⟨_, rfl, rfl, fun _ => rfl⟩
  rw [if_neg (fun e => e.elim h1 h2)]
  by_cases h3 : o.f0 = 13
  · rw [if_pos h3, rd13 h3, rgetStatus_eq _ hs k (by omega), Option.bind_some]
    cases hc : cutB (L o.f1) 0 2 with
    | true => exact ⟨_, rfl, rfl, fun _ => rfl⟩
    | false => exact ⟨_, rfl, rfl, fun h => no130 h⟩
  rw [if_neg h3]
  by_cases h4 : o.f0 = 14
  · rw [if_pos (.inl h4), rd14 h4]
    by_cases hz : o.f1.toList = ([] : List UInt8)
    · rw [if_pos hz, beq_iff_eq.2 (show (o.f1.size : Int) = 0 by have := (size_empty _).1 hz; omega), h4, show ((14 : Int) == 14) = true from rfl, show ((14 : Int) == 20) = false from rfl, Bool.or_true, Bool.or_false]
      exact ⟨_, rfl, rfl, fun _ => rfl⟩
    · have : ¬ (o.f1.size : Int) = 0 := fun e => hz ((size_empty _).2 (by omega))
      rw [if_neg hz, (by simpa using this : ((o.f1.size : Int) == 0) = false)]
      exact ⟨_, rfl, rfl, fun h => no130 h⟩
  by_cases h5 : o.f0 = 20
  · rw [if_pos (.inr h5), rd20 h5]
    by_cases hz : o.f1.toList = ([] : List UInt8)
    · rw [if_pos hz, beq_iff_eq.2 (show (o.f1.size : Int) = 0 by have := (size_empty _).1 hz; omega), h5, show ((20 : Int) == 14) = false from rfl, show ((20 : Int) == 20) = true from rfl, Bool.or_true, Bool.or_false]
      exact ⟨_, rfl, rfl, fun _ => rfl⟩
    · have : ¬ (o.f1.size : Int) = 0 := fun e => hz ((size_empty _).2 (by omega))
      rw [if_neg hz, (by simpa using this : ((o.f1.size : Int) == 0) = false)]
      exact ⟨_, rfl, rfl, fun h => no130 h⟩
  rw [if_neg (fun e => e.elim h4 h5)]
  by_cases h6 : o.f0 = 19
  · rw [if_pos h6, rd19 h6]
    by_cases hz : (o.f1.size : Int) = 1
    · rw [if_pos hz, if_pos hz]
      by_cases hb : bt o.f1 0 = 5 ∨ bt o.f1 0 = 6 ∨ bt o.f1 0 = 11
      · rw [if_pos hb]
        have : w6again (bt o.f1 0) = true := by rcases hb with hb | hb | hb <;> rw [hb] <;> rfl
        rw [this]
        exact ⟨_, rfl, rfl, fun _ => rfl⟩
      · rw [if_neg hb]
        have e5 : (bt o.f1 0 == 5) = false := by simpa using fun e => hb (.inl e)
        have e6 : (bt o.f1 0 == 6) = false := by simpa using fun e => hb (.inr (.inl e))
        have e7 : (bt o.f1 0 == 11) = false := by simpa using fun e => hb (.inr (.inr e))
        have : w6again (bt o.f1 0) = false := by unfold w6again; rw [e5, e6, e7]; rfl
        rw [this]
        exact ⟨_, rfl, rfl, fun h => no130 h⟩
    · rw [if_neg hz, if_neg hz]
      exact ⟨_, rfl, rfl, fun h => no130 h⟩
  rw [if_neg h6]
  by_cases h7 : o.f0 = 3 ∨ o.f0 = 4 ∨ o.f0 = 25
  · rw [if_pos h7, rdA h7]
    by_cases hz : m.ias.length < 8
    · rw [if_pos hz, if_pos hz, rGet_eq k (by omega) _ _ hs, Option.bind_some]
      by_cases he : (gI o.f0 (L o.f1)).2.2.2.2.2.2 = 0
      · rw [if_pos he]
        exact ⟨_, rfl, he.symm, fun _ => rfl⟩
      · rw [if_neg he]
        exact ⟨_, rfl, rfl, fun h => absurd h he⟩
    · rw [if_neg hz, if_neg hz]
      exact ⟨_, rfl, rfl, fun h => no6 h⟩
  · rw [if_neg h7, rdO ⟨h1, h2, h3, h4, h5, h6, h7⟩, if_pos hl]
    exact ⟨_, rfl, rfl, fun _ => rfl⟩
theorem rd_again (m : Ms) (o : S42) (again : Bool) (h : ownB o.f0 = true ∧ (o.f0 == 3 || o.f0 == 4 || o.f0 == 25) = false → again = false) : rdM m o again = rdM m o false := by
  by_cases hc : ownB o.f0 = true ∧ (o.f0 == 3 || o.f0 == 4 || o.f0 == 25) = false
  · rw [h hc]
  · have hn : (o.f0 = 3 ∨ o.f0 = 4 ∨ o.f0 = 25) ∨ ownB o.f0 = false := by
      cases ho : ownB o.f0 with
      | false => exact .inr rfl
      | true =>
        left
        have : ¬ (o.f0 == 3 || o.f0 == 4 || o.f0 == 25) = false := fun e => hc ⟨ho, e⟩
        simp only [Bool.not_eq_false, Bool.or_eq_true, beq_iff_eq] at this
        omega
    rcases hn with hn | hn
    · rw [rdA hn, rdA hn]
    · have q := own_ne hn
      rw [rdO (by omega), rdO (by omega)]
theorem once16 {m : Ms} (o : S42) (ho : ownB o.f0 = true) (hn : (o.f0 == 3 || o.f0 == 4 || o.f0 == 25) = false) : (rdM m o true).2 = 130 := by
  have hc : o.f0 = 1 ∨ o.f0 = 2 ∨ o.f0 = 13 ∨ o.f0 = 14 ∨ o.f0 = 20 ∨ o.f0 = 19 := by
    unfold ownB at ho
    simp only [List.contains_cons, List.contains_nil, Bool.or_false, Bool.or_eq_true, beq_iff_eq] at ho
    simp only [Bool.or_eq_false_iff, beq_eq_false_iff_ne] at hn
    omega
  have oa : ∀ b, w6only b true = 130 := fun b => by cases b <;> rfl
  rcases hc with h | h | h | h | h | h
  · rw [rd1 h]; exact oa _
  · rw [rd2 h]; exact oa _
  · rw [rd13 h]; exact oa _
  · rw [rd14 h]; exact oa _
  · rw [rd20 h]; exact oa _
  · rw [rd19 h]
    split
    · exact oa _
    · rfl
theorem rrun_eq : ∀ (l pre : List S42) (m : Ms) (k : Nat), (∀ o ∈ l, okO o) → m.opts.length + l.length < 1000000 → (pre ++ l).length ≤ 1000000 → pre.length + l.length + 1001 ≤ k → w6rrun k (pre ++ l) l pre.length m = some (runM l (rvC pre []) m)
  | [], pre, m, k, _, _, _, _ => rfl
  | o :: l, pre, m, k, h, hl, hp, hk => by
    have ho := h o List.mem_cons_self
    have h1 := ho.1
    rw [List.length_cons] at hl hk
    have ih := rrun_eq l (pre ++ [o])
    rw [w6rrun, if_pos (by omega), rtw_eq pre (o :: l) o.f0 hp k (by omega), Option.bind_some, runM]
    cases hc : (rvC pre []).contains o.f0 with
    | true =>
      rw [Bool.and_true]
      cases hw : (ownB o.f0 && !(o.f0 == 3 || o.f0 == 4 || o.f0 == 25)) with
      | true =>
        rw [Bool.and_eq_true, Bool.not_eq_true'] at hw
        rw [if_pos rfl, once16 o hw.1 hw.2, if_neg (by decide)]
      | false =>
        rw [if_neg (by decide)]
        have hag : rdM m o true = rdM m o false := rd_again m o true (fun q => by rw [q.1, q.2] at hw; cases hw)
        obtain ⟨p, p1, p2, p3⟩ := one_eq m o (by omega) (by omega) k (by omega)
        rw [p1, Option.bind_some, hag, ← p2]
        by_cases hz : p.2 = 0
        · have h2 := rdM_opts m o false
          have := ih (rdM m o false).1 k (fun x hx => h x (List.mem_cons_of_mem _ hx)) (by omega) (by rw [List.append_assoc]; exact hp) (by rw [List.length_append, List.length_singleton]; omega)
          rw [List.append_assoc, List.length_append, List.length_singleton, ← rvC_app] at this
          rw [if_pos hz, if_pos hz, p3 hz]
          exact this
        · rw [if_neg hz, if_neg hz]
    | false =>
      rw [Bool.and_false, if_neg (by decide)]
      obtain ⟨p, p1, p2, p3⟩ := one_eq m o (by omega) (by omega) k (by omega)
      rw [p1, Option.bind_some, ← p2]
      by_cases hz : p.2 = 0
      · have h2 := rdM_opts m o false
        have := ih (rdM m o false).1 k (fun x hx => h x (List.mem_cons_of_mem _ hx)) (by omega) (by rw [List.append_assoc]; exact hp) (by rw [List.length_append, List.length_singleton]; omega)
        rw [List.append_assoc, List.length_append, List.length_singleton, ← rvC_app] at this
        rw [if_pos hz, if_pos hz, p3 hz]
        exact this
      · rw [if_neg hz, if_neg hz]
theorem byte0 (s : ByteArray) (h : 4 ≤ s.size) : getN (L s) 0 4 / 16777216 = bt s 0 := by
  have hb : bt s ((0 : Nat) : Int) = (((L s).getD 0 0).toNat : Int) := bt_getD s 0 (by omega)
  rw [show ((0 : Nat) : Int) = 0 from rfl] at hb
  rw [size_L] at h
  match hl : L s, h with
  | a :: b :: c :: d :: r, _ =>
    rw [hl] at hb
    have e : getN (a :: b :: c :: d :: r) 0 4 = num [a, b, c, d] := getN_head [a, b, c, d] r 4 rfl
    have h1 := a.toNat_lt
    have h2 := b.toNat_lt
    have h3 := c.toNat_lt
    have h4 := d.toNat_lt
    rw [hb, e]
    show (((((0 * 256 + (a.toNat : Int)) * 256 + (b.toNat : Int)) * 256 + (c.toNat : Int)) * 256 + (d.toNat : Int))) / 16777216 = (a.toNat : Int)
    omega
  | [], h => simp at h
  | [_], h => simp at h
  | [_, _], h => simp at h
  | [_, _, _], h => simp at h
theorem rdecode_eq (s : ByteArray) (hs : s.size ≤ 4611686018427387904) (k : Nat) (hk : 2000 ≤ k) : tenancyref16_Decode.f k s = some (decM (L s)) := by
  unfold tenancyref16_Decode.f decM
  by_cases h1 : (s.size : Int) > 65507
  · rw [if_pos h1, if_pos (by rw [← size_L]; omega)]
  rw [if_neg h1, if_neg (show ¬ 65507 < (L s).length by rw [← size_L]; omega)]
  by_cases h2 : (s.size : Int) < 4
  · have : cutB (L s) 0 4 = false := by
      unfold cutB
      exact decide_eq_false (fun q => by rw [← size_L] at q; omega)
    rw [if_pos h2, this, if_pos rfl]
  have hc : cutB (L s) 0 4 = true := by
    unfold cutB
    exact decide_eq_true ⟨by decide, by decide, by rw [← size_L]; omega⟩
  have hb := byte0 s (by omega)
  have hr := getN4 (L s) 0
  rw [if_neg h2, hc, if_neg (show ¬ (true = false) by decide), hb]
  by_cases h3 : bt s 0 < 1
  · rw [if_pos h3, if_pos (.inl h3)]
  rw [if_neg h3]
  by_cases h4 : bt s 0 > 11
  · rw [if_pos h4, if_pos (.inr h4)]
  rw [if_neg h4, if_neg (fun e => e.elim h3 h4), rparse_eq _ (by rw [ByteArray.size_extract]; omega) k (by omega), Option.bind_some, extract_from]
  by_cases h5 : (opts ((L s).drop 4)).2 = 0
  · have ho := opts_ok ((L s).drop 4)
    rw [if_pos h5, if_pos h5, rget32 (by omega) s 0 hs (by omega), Option.bind_some]
    dsimp only
    have hnew : w6rnew (bt s 0) (getN (L s) 0 4) = w6new (getN (L s) 0 4) := by
      have hx : Go.bits .and .u32 (getN (L s) 0 4) 16777215 = getN (L s) 0 4 % 16777216 := by
        rw [u32_and _ _ (by omega) (by omega) (by decide) (by decide), show ((16777215 : Int)).toNat = 2 ^ 24 - 1 from rfl, Nat.and_two_pow_sub_one_eq_mod]
        omega
      unfold w6rnew w6new
      rw [hx, hb]
    rw [if_pos ⟨by have := ho.2; omega, hr⟩, hnew]
    have := rrun_eq (opts ((L s).drop 4)).1 [] (w6new (getN (L s) 0 4)) k ho.1 (by have := ho.2; show 0 + _ < _; omega) (by have := ho.2; rw [List.nil_append]; omega) (by have := ho.2; simp only [List.length_nil]; omega)
    exact this
  · rw [if_neg h5, if_neg h5]
end Go.Proofs.Ythadapbekmmgpaa.O6


set_option linter.unusedVariables false
namespace Go.Proofs.Ythadapbekmmgpaa.Pure
open Go Go.RowKit Go.Proofs.YthadapbekmmgpaaW.PrintWords Go.Proofs.YthadapbekmmgpaaW.PrintLast Go.Proofs.YthadapbekmmgpaaW.PrintMore Go.Proofs.Ythadapbekmmgpaa.X Go.Proofs.Ythadapbekmmgpaa.Oct Go.Proofs.Ythadapbekmmgpaa.O6
theorem Wire6Decodes (s : ByteArray) (hs : s.size ≤ 140737488351232) (W : World) : Calls Try.prog 4 #[.string s] W fun e w' => e = .returned (.bool true) ∧ Below W.heap.size W w' :=
  w6decodes 2000 s W tenancylaw16_awake.yes (decM (L s)).1 (decM (L s)).2 (decode_eq s (by omega) 2000 (by decide)) (rdecode_eq s (by omega) 2000 (by decide))
end Go.Proofs.Ythadapbekmmgpaa.Pure
