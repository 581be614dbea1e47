/- The plain side: what the program and the reference compute, as plain lemmas; conditions: as each lemma says. -/
import Derived.Test.YthadapbekmmgpaaEX0
import Derived.Test.YthadapbekmmgpaaEX8
import Derived.Test.YthadapbekmmgpaaEXCv
import Derived.Test.YthadapbekmmgpaaEXE3
import Derived.Test.YthadapbekmmgpaaEXE4
import Derived.Test.YthadapbekmmgpaaEXEE
import Derived.Test.YthadapbekmmgpaaEXIn
import Derived.Test.YthadapbekmmgpaaEXOrow
import Derived.Test.YthadapbekmmgpaaEXReg
import Derived.Test.YthadapbekmmgpaaEXRegF
import Derived.Test.YthadapbekmmgpaaEXRegG
import Derived.Test.YthadapbekmmgpaaEXRegP
import Derived.Laws.BitsAllLaws
import Derived.Lib.Strings
import Derived.Outline
import Derived.Lib.Hide
import Derived.Laws.IdiomCopy
import Derived.Lib.SliceRun
import Derived.WalkSpells
set_option linter.unusedVariables false
set_option linter.unusedSimpArgs false
namespace Go.Proofs.Ythadapbekmmgpaa.Oct
open Go.RowKit Go.Proofs.YthadapbekmmgpaaW.PrintWords Go.Proofs.YthadapbekmmgpaaW.PrintLast Go.Proofs.YthadapbekmmgpaaW.PrintMore Go.Proofs.Ythadapbekmmgpaa.X

/-- A string out of its bytes. -/
def B (l : List UInt8) : ByteArray := ⟨l.toArray⟩
/-- A string's bytes. -/
def L (s : ByteArray) : List UInt8 := s.data.toList
theorem L_B (l : List UInt8) : L (B l) = l := rfl
theorem B_L (s : ByteArray) : B (L s) = s := rfl
theorem size_L (s : ByteArray) : s.size = (L s).length := rfl
theorem L_append (a b : ByteArray) : L (a ++ b) = L a ++ L b := by simp [L, ByteArray.data_append]
theorem B_append (a b : List UInt8) : B a ++ B b = B (a ++ b) := by
  rw [← B_L (B a ++ B b), L_append, L_B, L_B]
theorem ext_L {a b : ByteArray} (h : L a = L b) : a = b := by rw [← B_L a, ← B_L b, h]
theorem size_B (l : List UInt8) : (B l).size = l.length := rfl
/-- A number's low byte. -/
def b8 (n : Int) : UInt8 := UInt8.ofNat (n % 256).toNat
theorem b8_mod (n : Int) : b8 (n % 256) = b8 n := by unfold b8; rw [Int.emod_emod]
theorem b8_byte (c : UInt8) : b8 (c.toNat : Int) = c := by
  unfold b8
  have h := c.toNat_lt
  rw [show ((c.toNat : Int) % 256).toNat = c.toNat by omega]
  exact UInt8.ofNat_toNat
theorem strOfNums_B (l : List Int) (h : ∀ x ∈ l, 0 ≤ x ∧ x < 256) : strOfNums l = B (l.map b8) := by
  unfold strOfNums B
  congr 2
  apply List.map_congr_left
  intro x hx
  obtain ⟨h0, h1⟩ := h x hx
  unfold b8
  rw [Int.emod_eq_of_lt h0 h1]
/-- The bytes of numbers, the highest first. -/
def be2 (a : Int) : List UInt8 := [b8 (a / 256), b8 a]
def be4 (a : Int) : List UInt8 := [b8 (a / 16777216), b8 (a / 65536), b8 (a / 256), b8 a]
def be8 (a : Int) : List UInt8 := [b8 (a / 72057594037927936), b8 (a / 281474976710656), b8 (a / 1099511627776), b8 (a / 4294967296), b8 (a / 16777216), b8 (a / 65536), b8 (a / 256), b8 a]

theorem w64 {n : Int} (h : -9223372036854775808 ≤ n ∧ n ≤ 9223372036854775807) : wrap64 n = n := by unfold wrap64; omega

theorem wf_u64 {n : Int} (h : (Lit.int .u64 n).wf = true) : 0 ≤ n ∧ n < 18446744073709551616 := by
  have h : 0 ≤ n ∧ n ≤ 18446744073709551615 := by simpa [Lit.wf, IntKind.min, IntKind.max, IntKind.bits, IntKind.signed] using h
  omega
theorem wf_u32 {n : Int} (h : (Lit.int .u32 n).wf = true) : 0 ≤ n ∧ n < 4294967296 := by
  have h : 0 ≤ n ∧ n ≤ 4294967295 := by simpa [Lit.wf, IntKind.min, IntKind.max, IntKind.bits, IntKind.signed] using h
  omega
theorem wf_u16 {n : Int} (h : (Lit.int .u16 n).wf = true) : 0 ≤ n ∧ n < 65536 := by
  have h : 0 ≤ n ∧ n ≤ 65535 := by simpa [Lit.wf, IntKind.min, IntKind.max, IntKind.bits, IntKind.signed] using h
  omega
/-- The number that bytes are, the highest first. -/
def num (l : List UInt8) : Int := l.foldl (fun x c => x * 256 + (c.toNat : Int)) 0
/-- A piece: n bytes from at on; or nothing. -/
def cutB (l : List UInt8) (at_ n : Int) : Bool := decide (0 ≤ at_ ∧ 0 ≤ n ∧ at_ + n ≤ l.length)
def cutL (l : List UInt8) (at_ n : Int) : List UInt8 := if cutB l at_ n = true then (l.drop at_.toNat).take n.toNat else []
theorem conv (s : ByteArray) (hs : s.size ≤ 4611686018427387904) : conv9_47.f s = some (bytesOf s) := by
  unfold conv9_47.f
  rw [if_pos (by omega)]
theorem bytesOf_L (s : ByteArray) : bytesOf s = (L s).map fun c => (c.toNat : Int) := rfl
theorem put16 {k : Nat} (hk : 4 ≤ k) (a : Int) (h0 : 0 ≤ a) (h1 : a < 65536) : octet_put_uint16.f k a 2 = some (B (be2 a)) := by
  obtain ⟨k, rfl⟩ : ∃ m, k = m + 4 := ⟨k - 4, by omega⟩
  have e : strOfNums [a / 256 % 256, a % 256] = B (be2 a) := by
    rw [strOfNums_B _ (by intro x hx; simp at hx; omega)]
    simp [be2, b8_mod]
  rw [← e]
  simp [octet_put_uint16.f, octet_put_uint16.l0, wrap64, shr, IntKind.bits, List.replicate]
theorem put32 {k : Nat} (hk : 6 ≤ k) (a : Int) (h0 : 0 ≤ a) (h1 : a < 4294967296) : octet_put_uint32.f k a 4 = some (B (be4 a)) := by
  obtain ⟨k, rfl⟩ : ∃ m, k = m + 6 := ⟨k - 6, by omega⟩
  have e : strOfNums [a / 16777216 % 256, a / 65536 % 256, a / 256 % 256, a % 256] = B (be4 a) := by
    rw [strOfNums_B _ (by intro x hx; simp at hx; omega)]
    simp [be4, b8_mod]
  rw [← e]
  simp [octet_put_uint32.f, octet_put_uint32.l0, wrap64, shr, IntKind.bits, List.replicate]
theorem put64 {k : Nat} (hk : 10 ≤ k) (a : Int) (h0 : 0 ≤ a) (h1 : a < 18446744073709551616) : octet_put_uint64.f k a 8 = some (B (be8 a)) := by
  obtain ⟨k, rfl⟩ : ∃ m, k = m + 10 := ⟨k - 10, by omega⟩
  have e : strOfNums [a / 72057594037927936 % 256, a / 281474976710656 % 256, a / 1099511627776 % 256, a / 4294967296 % 256, a / 16777216 % 256, a / 65536 % 256, a / 256 % 256, a % 256] = B (be8 a) := by
    rw [strOfNums_B _ (by intro x hx; simp at hx; omega)]
    simp [be8, b8_mod]
  rw [← e]
  simp [octet_put_uint64.f, octet_put_uint64.l0, wrap64, shr, IntKind.bits, List.replicate]

/-- A number read at a place. -/
def getN (l : List UInt8) (at_ : Int) (n : Int) : Int := num (cutL l at_ n)
theorem Put16 {k : Nat} (hk : 4 ≤ k) (a : Int) (h0 : 0 ≤ a) (h1 : a < 65536) : octet_Put16.f k a = some (B (be2 a)) := by
  unfold octet_Put16.f; rw [put16 hk a h0 h1]; rfl
theorem Put32 {k : Nat} (hk : 6 ≤ k) (a : Int) (h0 : 0 ≤ a) (h1 : a < 4294967296) : octet_Put32.f k a = some (B (be4 a)) := by
  unfold octet_Put32.f; rw [put32 hk a h0 h1]; rfl
theorem Put64 {k : Nat} (hk : 10 ≤ k) (a : Int) (h0 : 0 ≤ a) (h1 : a < 18446744073709551616) : octet_Put64.f k a = some (B (be8 a)) := by
  unfold octet_Put64.f; rw [put64 hk a h0 h1]; rfl
theorem u16_wrap (n : Int) : IntKind.u16.wrap n = n % 65536 := by simp [IntKind.wrap, IntKind.bits, IntKind.signed]
theorem u64_wrap (n : Int) : IntKind.u64.wrap n = n % 18446744073709551616 := by simp [IntKind.wrap, IntKind.bits, IntKind.signed]
theorem be2_length (a : Int) : (be2 a).length = 2 := rfl
theorem be4_length (a : Int) : (be4 a).length = 4 := rfl
theorem be8_length (a : Int) : (be8 a).length = 8 := rfl
/-- A length of 16 bits and as many bytes. -/
def runOk (l : List UInt8) : Bool := decide (l.length ≤ 65535)
def runL (l : List UInt8) : List UInt8 := if runOk l = true then be2 l.length ++ l else []
theorem run {k : Nat} (hk : 4 ≤ k) (s : ByteArray) : octet_Run.f k s = some (B (runL (L s)), runOk (L s)) := by
  unfold octet_Run.f runL
  have hl : ((L s).length : Int) = s.size := by rw [size_L]
  by_cases h : (s.size : Int) > 65535
  · have hb : runOk (L s) = false := by simp only [runOk, decide_eq_false_iff_not]; omega
    rw [if_pos h, hb]; rfl
  · have hb : runOk (L s) = true := by simp only [runOk, decide_eq_true_eq]; omega
    rw [if_neg h, hb, if_pos rfl, u16_wrap, Int.emod_eq_of_lt (by omega) (by omega), Put16 hk _ (by omega) (by omega)]
    simp only [Option.bind_some]
    rw [if_pos (by rw [size_B, be2_length]; omega), hl]
    refine congrArg some (Prod.ext ?_ rfl)
    apply ext_L
    rw [L_append, L_B, L_B]
/-- The run at a place: its bytes, the place behind it. -/
def takeOk (l : List UInt8) (at_ : Int) : Bool := cutB l at_ 2 && cutB l (at_ + 2) (getN l at_ 2)
def takeL (l : List UInt8) (at_ : Int) : List UInt8 := if takeOk l at_ = true then cutL l (at_ + 2) (getN l at_ 2) else []
def takeTo (l : List UInt8) (at_ : Int) : Int := if takeOk l at_ = true then at_ + 2 + getN l at_ 2 else 0
theorem putAddr {k : Nat} (hk : 10 ≤ k) (a b : Int) (h0 : 0 ≤ a ∧ a < 18446744073709551616) (h1 : 0 ≤ b ∧ b < 18446744073709551616) : octet_PutAddr.f k a b = some (B (be8 a ++ be8 b)) := by
  unfold octet_PutAddr.f
  rw [Put64 hk a h0.1 h0.2, Put64 hk b h1.1 h1.2]
  simp only [Option.bind_some]
  rw [if_pos (by rw [size_B, size_B, be8_length, be8_length]; omega), B_append]
end Go.Proofs.Ythadapbekmmgpaa.Oct


set_option linter.unusedVariables false
set_option linter.unusedSimpArgs false
namespace Go.Proofs.Ythadapbekmmgpaa.O6
open Go Go.RowKit Go.Proofs.YthadapbekmmgpaaW.PrintWords Go.Proofs.YthadapbekmmgpaaW.PrintLast Go.Proofs.YthadapbekmmgpaaW.PrintMore Go.Proofs.Ythadapbekmmgpaa.X Go.Proofs.Ythadapbekmmgpaa.Oct
abbrev NIL : ByteArray := ⟨#[]⟩
/-- Options read one behind the other. -/
def prs (l : List UInt8) : Nat → List S42 → Int → List S42 × Int
  | 0, acc, _ => (acc, 0)
  | d + 1, acc, i => if i < l.length then (if cutB l i 2 = true ∧ takeOk l (i + 2) = true then (if 128 ≤ acc.length then ([], 6) else prs l d (acc ++ [⟨getN l i 2, B (takeL l (i + 2))⟩]) (takeTo l (i + 2))) else ([], 3)) else (acc, 0)
def emOk (zs : List S42) : Bool := zs.all fun x => runOk (L x.f1)
def emL : List S42 → List UInt8
  | [] => []
  | x :: zs => (be2 x.f0 ++ runL (L x.f1)) ++ emL zs
def okF (x : S42) : Prop := 0 ≤ x.f0 ∧ x.f0 < 65536
theorem runL_len (l : List UInt8) : (runL l).length ≤ 65537 := by
  unfold runL
  split
  · rename_i h
    simp only [runOk, decide_eq_true_eq] at h
    rw [List.length_append, be2_length]; omega
  · exact Nat.zero_le _
theorem emL_len : ∀ zs : List S42, (emL zs).length ≤ 65539 * zs.length
  | [] => Nat.le_refl _
  | x :: zs => by
    have := emL_len zs
    have := runL_len (L x.f1)
    rw [emL, List.length_append, List.length_append, be2_length, List.length_cons]
    omega
theorem emit_l : ∀ (zs : List S42) (acc : ByteArray), (∀ x ∈ zs, okF x) → acc.size + 65539 * zs.length ≤ 140737488355328 → opt6_Emit.l zs acc = some (if emOk zs = true then (acc ++ B (emL zs), 0) else (NIL, 130))
  | [], acc, _, _ => by
    rw [opt6_Emit.l]
    refine congrArg some (Prod.ext ?_ rfl)
    apply ext_L
    show L acc = L (acc ++ B [])
    rw [L_append, L_B, List.append_nil]
  | x :: zs, acc, hz, hl => by
    have hx := hz x List.mem_cons_self
    rw [List.length_cons] at hl
    rw [opt6_Emit.l, run (by decide) x.f1, Option.bind_some]
    dsimp only
    cases hr : runOk (L x.f1) with
    | false =>
      have he : emOk (x :: zs) = false := by unfold emOk; rw [List.all_cons, hr]; rfl
      rw [if_neg (by decide), he]
      rfl
    | true =>
      have he : emOk (x :: zs) = emOk zs := by unfold emOk; rw [List.all_cons, hr, Bool.true_and]
      have hb := runL_len (L x.f1)
      rw [if_pos rfl, Put16 (by decide) x.f0 hx.1 hx.2, Option.bind_some, if_pos (by rw [size_B, size_B, be2_length]; omega), emit_l zs _ (fun y hy => hz y (List.mem_cons_of_mem _ hy)) (by rw [ByteArray.size_append, ByteArray.size_append, size_B, size_B, be2_length]; omega), he]
      by_cases h : emOk zs = true
      · rw [if_pos h, if_pos h, emL]
        refine congrArg some (Prod.ext ?_ rfl)
        apply ext_L
        simp only [L_append, L_B, List.append_assoc]
      · rw [if_neg h, if_neg h]
theorem emit_eq (zs : List S42) (hz : ∀ x ∈ zs, okF x) (hl : zs.length ≤ 128) : opt6_Emit.f zs = some (if emOk zs = true then (B (emL zs), 0) else (NIL, 130)) := by
  unfold opt6_Emit.f
  rw [if_neg (by omega), emit_l zs _ hz (by show 0 + _ ≤ _; omega)]
  by_cases h : emOk zs = true
  · rw [if_pos h, if_pos h]
    refine congrArg some (Prod.ext ?_ rfl)
    apply ext_L
    rw [L_append, L_B]
    rfl
  · rw [if_neg h, if_neg h]
theorem emOk_cons {x : S42} {zs : List S42} (h : emOk (x :: zs) = true) : runOk (L x.f1) = true ∧ emOk zs = true := by
  unfold emOk at h ⊢
  rwa [List.all_cons, Bool.and_eq_true] at h
theorem drop_at (zs : List S42) (i : Nat) (h : i < zs.length) : zs.drop i = rd_T42 zs (i : Int) :: zs.drop (i + 1) := by
  rw [List.drop_eq_getElem_cons h]
  simp [rd_T42, List.getD_eq_getElem?_getD, List.getElem?_eq_getElem h]
/-- All options of bytes. -/
def opts (l : List UInt8) : List S42 × Int := prs l (l.length + 1) [] 0
theorem isCode_eq (c : Int) : opt6_isCode.f c = some (decide (-1 ≤ c ∧ c ≤ 65535)) := by
  unfold opt6_isCode.f
  by_cases h : c ≥ -1
  · rw [if_pos h]
    by_cases h2 : c ≤ 65535
    · rw [decide_eq_true h2, decide_eq_true (show -1 ≤ c ∧ c ≤ 65535 from ⟨h, h2⟩)]
    · rw [decide_eq_false h2, decide_eq_false (fun q => h2 q.2)]
  · rw [if_neg h, decide_eq_false (fun q => h q.1)]
/-- A status's data. -/
def stD (c : Int) : List UInt8 := if 0 ≤ c ∧ c ≤ 65535 then be2 c else []
theorem putStatus_eq (c : Int) (k : Nat) (hk : 10 ≤ k) : opt6_PutStatus.f k c = some (B (stD c)) := by
  unfold opt6_PutStatus.f stD
  by_cases h1 : c = -1
  · rw [if_pos h1, if_neg (by omega)]
    rfl
  · rw [if_neg h1, isCode_eq, Option.bind_some]
    by_cases h2 : -1 ≤ c ∧ c ≤ 65535
    · rw [if_pos (decide_eq_true h2), u16_wrap, if_pos (by omega), Int.emod_eq_of_lt (by omega) (by omega), Put16 (by omega) c (by omega) (by omega), Option.bind_some]
    · rw [if_neg (by simpa using h2), if_neg (by omega)]
      rfl
end Go.Proofs.Ythadapbekmmgpaa.O6


namespace Go.Proofs.Ythadapbekmmgpaa.X
open Go Go.RowKit Go.Proofs.YthadapbekmmgpaaW.PrintWords Go.Proofs.YthadapbekmmgpaaW.PrintLast Go.Proofs.YthadapbekmmgpaaW.PrintMore
def wf42 (x : S42) : Prop := ((Lit.int .u16 x.f0).wf = true) ∧ (x.f1.size ≤ 140737488351232)
theorem opens42 : XRow.Opens Try.prog 42 k42 wf42 := XRow.opens_iso (fun x_ : S42 => (x_.f0, x_.f1)) (fun p_ => ⟨p_.1, p_.2⟩) (fun _ => rfl) (XRow.opens_struct (total := 2) Try.underlying42 (by kernel_rfl) (XRow.opensF_cons (k := 1) rfl (by kernel_rfl) (by decide) (by decide) (XRow.opens_int Try.underlying40) (XRow.opensF_one rfl (by kernel_rfl) (XRow.opens_string Try.underlying9))))
def wf54 (x : S54) : Prop := ((Lit.int .u64 x.f0).wf = true) ∧ ((Lit.int .u64 x.f1).wf = true)
theorem opens54 : XRow.Opens Try.prog 54 k54 wf54 := XRow.opens_iso (fun x_ : S54 => (x_.f0, x_.f1)) (fun p_ => ⟨p_.1, p_.2⟩) (fun _ => rfl) (XRow.opens_struct (total := 2) Try.underlying54 (by kernel_rfl) (XRow.opensF_cons (k := 1) rfl (by kernel_rfl) (by decide) (by decide) (XRow.opens_int Try.underlying52) (XRow.opensF_one rfl (by kernel_rfl) (XRow.opens_int Try.underlying52))))
def wf56 (x : S56) : Prop := (wf54 x.f0) ∧ ((Lit.int .i64 x.f1).wf = true)
theorem opens56 : XRow.Opens Try.prog 56 k56 wf56 := XRow.opens_iso (fun x_ : S56 => (x_.f0, x_.f1)) (fun p_ => ⟨p_.1, p_.2⟩) (fun _ => rfl) (XRow.opens_struct (total := 3) Try.underlying56 (by kernel_rfl) (XRow.opensF_cons (k := 2) rfl (by kernel_rfl) (by decide) (by decide) opens54 (XRow.opensF_one rfl (by kernel_rfl) (XRow.opens_int Try.underlying3))))
def wf58 (x : S58) : Prop := (wf56 x.f0) ∧ ((Lit.int .u32 x.f1).wf = true) ∧ ((Lit.int .u32 x.f2).wf = true) ∧ ((Lit.int .i64 x.f3).wf = true)
theorem opens58 : XRow.Opens Try.prog 58 k58 wf58 := XRow.opens_iso (fun x_ : S58 => (x_.f0, x_.f1, x_.f2, x_.f3)) (fun p_ => ⟨p_.1, p_.2.1, p_.2.2.1, p_.2.2.2⟩) (fun _ => rfl) (XRow.opens_struct (total := 6) Try.underlying58 (by kernel_rfl) (XRow.opensF_cons (k := 3) rfl (by kernel_rfl) (by decide) (by decide) opens56 (XRow.opensF_cons (k := 1) rfl (by kernel_rfl) (by decide) (by decide) (XRow.opens_int Try.underlying22) (XRow.opensF_cons (k := 1) rfl (by kernel_rfl) (by decide) (by decide) (XRow.opens_int Try.underlying22) (XRow.opensF_one rfl (by kernel_rfl) (XRow.opens_int Try.underlying3))))))
def wf51 (x : S51) : Prop := ((Lit.int .i64 x.f0).wf = true) ∧ ((Lit.int .u32 x.f1).wf = true) ∧ ((Lit.int .u32 x.f2).wf = true) ∧ ((Lit.int .u32 x.f3).wf = true) ∧ (x.f4.length * 40 ≤ 140737488351232 ∧ ∀ y_ ∈ x.f4, wf58 y_) ∧ ((Lit.int .i64 x.f5).wf = true)
theorem opens51 : XRow.Opens Try.prog 51 k51 wf51 := XRow.opens_iso (fun x_ : S51 => (x_.f0, x_.f1, x_.f2, x_.f3, x_.f4, x_.f5)) (fun p_ => ⟨p_.1, p_.2.1, p_.2.2.1, p_.2.2.2.1, p_.2.2.2.2.1, p_.2.2.2.2.2⟩) (fun _ => rfl) (XRow.opens_struct (total := 6) Try.underlying51 (by kernel_rfl) (XRow.opensF_cons (k := 1) rfl (by kernel_rfl) (by decide) (by decide) (XRow.opens_int Try.underlying3) (XRow.opensF_cons (k := 1) rfl (by kernel_rfl) (by decide) (by decide) (XRow.opens_int Try.underlying22) (XRow.opensF_cons (k := 1) rfl (by kernel_rfl) (by decide) (by decide) (XRow.opens_int Try.underlying22) (XRow.opensF_cons (k := 1) rfl (by kernel_rfl) (by decide) (by decide) (XRow.opens_int Try.underlying22) (XRow.opensF_cons (k := 1) rfl (by kernel_rfl) (by decide) (by decide) (XRow.opens_slice (B := 40) Try.underlying49 (by kernel_rfl) (by kernel_rfl) opens58) (XRow.opensF_one rfl (by kernel_rfl) (XRow.opens_int Try.underlying3))))))))
def wf26 (x : S26) : Prop := ((Lit.int .i64 x.f0).wf = true) ∧ ((Lit.int .u32 x.f1).wf = true) ∧ (x.f2.size ≤ 140737488351232) ∧ (x.f3.size ≤ 140737488351232) ∧ (x.f4.length * 56 ≤ 140737488351232 ∧ ∀ y_ ∈ x.f4, wf51 y_) ∧ ((Lit.int .i64 x.f5).wf = true) ∧ (True) ∧ (True) ∧ ((Lit.int .i64 x.f8).wf = true) ∧ (x.f9.length * 24 ≤ 140737488351232 ∧ ∀ y_ ∈ x.f9, wf42 y_)
theorem opens26 : XRow.Opens Try.prog 26 k26 wf26 := XRow.opens_iso (fun x_ : S26 => (x_.f0, x_.f1, x_.f2, x_.f3, x_.f4, x_.f5, x_.f6, x_.f7, x_.f8, x_.f9)) (fun p_ => ⟨p_.1, p_.2.1, p_.2.2.1, p_.2.2.2.1, p_.2.2.2.2.1, p_.2.2.2.2.2.1, p_.2.2.2.2.2.2.1, p_.2.2.2.2.2.2.2.1, p_.2.2.2.2.2.2.2.2.1, p_.2.2.2.2.2.2.2.2.2⟩) (fun _ => rfl) (XRow.opens_struct (total := 10) Try.underlying26 (by kernel_rfl) (XRow.opensF_cons (k := 1) rfl (by kernel_rfl) (by decide) (by decide) (XRow.opens_int Try.underlying3) (XRow.opensF_cons (k := 1) rfl (by kernel_rfl) (by decide) (by decide) (XRow.opens_int Try.underlying22) (XRow.opensF_cons (k := 1) rfl (by kernel_rfl) (by decide) (by decide) (XRow.opens_string Try.underlying9) (XRow.opensF_cons (k := 1) rfl (by kernel_rfl) (by decide) (by decide) (XRow.opens_string Try.underlying9) (XRow.opensF_cons (k := 1) rfl (by kernel_rfl) (by decide) (by decide) (XRow.opens_slice (B := 56) Try.underlying23 (by kernel_rfl) (by kernel_rfl) opens51) (XRow.opensF_cons (k := 1) rfl (by kernel_rfl) (by decide) (by decide) (XRow.opens_int Try.underlying3) (XRow.opensF_cons (k := 1) rfl (by kernel_rfl) (by decide) (by decide) (XRow.opens_bool Try.underlying4) (XRow.opensF_cons (k := 1) rfl (by kernel_rfl) (by decide) (by decide) (XRow.opens_bool Try.underlying4) (XRow.opensF_cons (k := 1) rfl (by kernel_rfl) (by decide) (by decide) (XRow.opens_int Try.underlying3) (XRow.opensF_one rfl (by kernel_rfl) (XRow.opens_slice (B := 24) Try.underlying24 (by kernel_rfl) (by kernel_rfl) opens42))))))))))))
end Go.Proofs.Ythadapbekmmgpaa.X


namespace Go.Proofs.Ythadapbekmmgpaa.Pre
/-- A's block of 2^k numbers begins at this number. -/
def clip (k A : Nat) : Nat := A / 2 ^ k * 2 ^ k
theorem clip_le (k A : Nat) : clip k A ≤ A := Nat.div_mul_le_self A _
/-- One bit more. -/
theorem clip_bit (j A : Nat) : clip j A = clip (j + 1) A + A / 2 ^ j % 2 * 2 ^ j := by
  unfold clip
  rw [Nat.pow_succ, ← Nat.div_div_eq_div_mul, Nat.mul_comm (2 ^ j) 2, ← Nat.mul_assoc, ← Nat.add_mul]
  congr 1
  omega
theorem or_bit (j A : Nat) : clip (j + 1) A ||| 2 ^ j = clip (j + 1) A + 2 ^ j := by
  unfold clip
  have h := Nat.shiftLeft_add_eq_or_of_lt (Nat.pow_lt_pow_right (a := 2) (by decide) (Nat.lt_succ_self j)) (A / 2 ^ (j + 1))
  rw [Nat.shiftLeft_eq] at h
  exact h.symm
/-- The two halves of a number of 128 bits. -/
def W (hi lo : Nat) : Nat := hi * 18446744073709551616 + lo
theorem clip_high (n hi lo : Nat) (hl : lo < 18446744073709551616) : clip (n + 64) (W hi lo) = W (clip n hi) 0 := by
  unfold clip W
  rw [Nat.pow_add, Nat.mul_comm (2 ^ n), ← Nat.div_div_eq_div_mul, show (2 : Nat) ^ 64 = 18446744073709551616 by decide, show (hi * 18446744073709551616 + lo) / 18446744073709551616 = hi by omega, Nat.mul_comm 18446744073709551616, ← Nat.mul_assoc, Nat.add_zero]
theorem clip_low (n hi lo : Nat) (hn : n ≤ 64) : clip n (W hi lo) = W hi (clip n lo) := by
  unfold clip W
  obtain ⟨d, hd⟩ := Nat.le.dest hn
  have e : (18446744073709551616 : Nat) = 2 ^ d * 2 ^ n := by rw [← Nat.pow_add, Nat.add_comm d, hd]
  rw [e, ← Nat.mul_assoc, Nat.add_comm _ lo, Nat.add_mul_div_right _ _ (Nat.two_pow_pos n), Nat.add_mul]
  omega
theorem W_inj {a b c d : Nat} (hb : b < 18446744073709551616) (hd : d < 18446744073709551616) (h : W a b = W c d) : a = c ∧ b = d := by unfold W at h; omega
end Go.Proofs.Ythadapbekmmgpaa.Pre


set_option linter.unusedVariables false
set_option linter.unusedSimpArgs false
namespace Go.Proofs.Ythadapbekmmgpaa.Adr
open Go.RowKit Go.Proofs.YthadapbekmmgpaaW.PrintWords Go.Proofs.YthadapbekmmgpaaW.PrintLast Go.Proofs.YthadapbekmmgpaaW.PrintMore Go.Proofs.Ythadapbekmmgpaa.X Go.Proofs.Ythadapbekmmgpaa.Pre

theorem u64_wrap (n : Int) : IntKind.u64.wrap n = n % 18446744073709551616 := by simp [IntKind.wrap, IntKind.bits, IntKind.signed]
theorem shr_nat (h m : Nat) (hm : m ≤ 64) : shr .u64 (h : Int) (m : Int) = ((h / 2 ^ m : Nat) : Int) := by
  unfold shr
  rw [Int.toNat_natCast, show min m IntKind.u64.bits = m from Nat.min_eq_left hm]
  norm_cast
theorem shl_nat (h m : Nat) (hm : m ≤ 64) : shl .u64 (h : Int) (m : Int) = ((h * 2 ^ m % 18446744073709551616 : Nat) : Int) := by
  unfold shl
  rw [Int.toNat_natCast, show min m IntKind.u64.bits = m from Nat.min_eq_left hm, u64_wrap, Int.natCast_emod, Int.natCast_mul, Int.natCast_pow]
  rfl
theorem or_add (j x y : Nat) (hx : x % 2 ^ j = 0) (hy : y < 2 ^ j) : x ||| y = x + y := by
  have h := Nat.shiftLeft_add_eq_or_of_lt hy (x / 2 ^ j)
  rw [Nat.shiftLeft_eq, Nat.div_mul_cancel (Nat.dvd_of_mod_eq_zero hx)] at h
  exact h.symm
theorem pow64 (m : Nat) (hm : m ≤ 64) : 2 ^ m * 2 ^ (64 - m) = 18446744073709551616 := by
  rw [← Nat.pow_add, show m + (64 - m) = 64 by omega]
/-- The lower half of a number turned down by m. -/
def lowd (m h l : Nat) : Nat := (h % 2 ^ m) * 2 ^ (64 - m) + l / 2 ^ m
theorem low_or (m h l : Nat) (hm : m ≤ 64) (hl : l < 18446744073709551616) : (l / 2 ^ m) ||| (h * 2 ^ (64 - m) % 18446744073709551616) = lowd m h l := by
  have hp := pow64 m hm
  have h1 : h * 2 ^ (64 - m) % 18446744073709551616 = (h % 2 ^ m) * 2 ^ (64 - m) := by
    rw [← hp, Nat.mul_mod_mul_right]
  have h2 : l / 2 ^ m < 2 ^ (64 - m) := by
    rw [Nat.div_lt_iff_lt_mul (Nat.two_pow_pos m), Nat.mul_comm, hp]; exact hl
  rw [h1, Nat.or_comm, or_add (64 - m) _ _ (Nat.mul_mod_left _ _) h2]
  rfl
theorem lowd_lt (m h l : Nat) (hm : m ≤ 64) (hl : l < 18446744073709551616) : lowd m h l < 18446744073709551616 := by
  have hp := pow64 m hm
  have h2 : l / 2 ^ m < 2 ^ (64 - m) := by
    rw [Nat.div_lt_iff_lt_mul (Nat.two_pow_pos m), Nat.mul_comm, hp]; exact hl
  have h3 : h % 2 ^ m + 1 ≤ 2 ^ m := Nat.mod_lt _ (Nat.two_pow_pos m)
  have h4 := Nat.mul_le_mul_right (2 ^ (64 - m)) h3
  rw [hp, Nat.add_mul, Nat.one_mul] at h4
  unfold lowd
  omega
theorem down_small {n : Int} (h l : Nat) (hn : n ≤ 0) : addr_Down.f h l n = some ((h : Int), (l : Int)) := by
  unfold addr_Down.f; rw [if_pos hn]
theorem down_mid (m h l : Nat) (h0 : 0 < m) (hm : m < 64) (hh : h < 18446744073709551616) (hl : l < 18446744073709551616) : addr_Down.f h l (m : Int) = some (((h / 2 ^ m : Nat) : Int), ((lowd m h l : Nat) : Int)) := by
  unfold addr_Down.f
  have hw : wrap64 (64 - (m : Int)) = ((64 - m : Nat) : Int) := by unfold wrap64; omega
  have hd : l / 2 ^ m < 18446744073709551616 := Nat.lt_of_le_of_lt (Nat.div_le_self _ _) hl
  rw [if_neg (by omega), if_neg (by omega), if_pos (by omega), hw, if_pos (by omega), shr_nat _ _ (by omega), shr_nat _ _ (by omega), shl_nat _ _ (by omega), u64_or_nat _ _ hd (Nat.mod_lt _ (by decide)), low_or m h l (by omega) hl]
theorem down_high (m h l : Nat) (hm : 64 ≤ m) (hm2 : m ≤ 128) : addr_Down.f h l (m : Int) = some (0, ((h / 2 ^ (m - 64) : Nat) : Int)) := by
  unfold addr_Down.f
  have hw : wrap64 ((m : Int) - 64) = ((m - 64 : Nat) : Int) := by unfold wrap64; omega
  rw [if_neg (by omega), if_pos (by omega), hw, if_pos (by omega), shr_nat _ _ (by omega)]
theorem up_small {n : Int} (h l : Nat) (hn : n ≤ 0) : addr_Up.f h l n = some ((h : Int), (l : Int)) := by
  unfold addr_Up.f; rw [if_pos hn]
theorem up_mid (m h l : Nat) (h0 : 0 < m) (hm : m < 64) (hl : l < 18446744073709551616) : addr_Up.f h l (m : Int) = some ((((h * 2 ^ m % 18446744073709551616) ||| (l / 2 ^ (64 - m)) : Nat) : Int), ((l * 2 ^ m % 18446744073709551616 : Nat) : Int)) := by
  unfold addr_Up.f
  have hw : wrap64 (64 - (m : Int)) = ((64 - m : Nat) : Int) := by unfold wrap64; omega
  have hd : l / 2 ^ (64 - m) < 18446744073709551616 := Nat.lt_of_le_of_lt (Nat.div_le_self _ _) hl
  rw [if_neg (by omega), if_neg (by omega), if_pos (by omega), hw, if_pos (by omega), shr_nat _ _ (by omega), shl_nat _ _ (by omega), shl_nat _ _ (by omega), u64_or_nat _ _ (Nat.mod_lt _ (by decide)) hd]
theorem up_high (m h l : Nat) (hm : 64 ≤ m) (hm2 : m ≤ 128) : addr_Up.f h l (m : Int) = some (((l * 2 ^ (m - 64) % 18446744073709551616 : Nat) : Int), 0) := by
  unfold addr_Up.f
  have hw : wrap64 ((m : Int) - 64) = ((m - 64 : Nat) : Int) := by unfold wrap64; omega
  rw [if_neg (by omega), if_pos (by omega), hw, if_pos (by omega), shl_nat _ _ (by omega)]
/-- What a clipped number's halves are. -/
def ch (m h : Nat) : Nat := if 64 ≤ m then clip (m - 64) h else h
def cl (m l : Nat) : Nat := if 64 ≤ m then 0 else clip m l
theorem cW (m h l : Nat) (hm : m ≤ 128) (hl : l < 18446744073709551616) : W (ch m h) (cl m l) = clip m (W h l) := by
  unfold ch cl
  by_cases h1 : 64 ≤ m
  · rw [if_pos h1, if_pos h1]
    obtain ⟨d, rfl⟩ : ∃ d, m = d + 64 := ⟨m - 64, by omega⟩
    rw [clip_high d h l hl, Nat.add_sub_cancel]
  · rw [if_neg h1, if_neg h1, clip_low m h l (by omega)]
theorem cl_lt (m l : Nat) (hl : l < 18446744073709551616) : cl m l < 18446744073709551616 := by
  unfold cl; split
  · decide
  · exact Nat.lt_of_le_of_lt (clip_le _ _) hl
theorem updown (m h l : Nat) (hm : m ≤ 128) (hh : h < 18446744073709551616) (hl : l < 18446744073709551616) :
    ((addr_Down.f h l (m : Int)).bind fun b => (addr_Up.f b.1 b.2 (m : Int)).bind fun c => some (c.1, c.2)) = some (((ch m h : Nat) : Int), ((cl m l : Nat) : Int)) := by
  unfold ch cl
  by_cases h1 : 64 ≤ m
  · rw [if_pos h1, if_pos h1, down_high m h l h1 hm, Option.bind_some]
    show ((addr_Up.f ((0 : Nat) : Int) _ _).bind _) = _
    rw [up_high m 0 _ h1 hm, Option.bind_some, Nat.mod_eq_of_lt (Nat.lt_of_le_of_lt (Nat.div_mul_le_self _ _) hh)]
    rfl
  · rw [if_neg h1, if_neg h1]
    by_cases h0 : m = 0
    · subst h0
      rw [down_small h l (by decide), Option.bind_some]
      show ((addr_Up.f (h : Int) (l : Int) _).bind _) = _
      rw [up_small h l (by decide), Option.bind_some]
      simp [clip]
    · rw [down_mid m h l (by omega) (by omega) hh hl, Option.bind_some]
      show ((addr_Up.f ((h / 2 ^ m : Nat) : Int) ((lowd m h l : Nat) : Int) _).bind _) = _
      have hp := pow64 m (by omega)
      have h2 : l / 2 ^ m < 2 ^ (64 - m) := by
        rw [Nat.div_lt_iff_lt_mul (Nat.two_pow_pos m), Nat.mul_comm, hp]; exact hl
      have e1 : lowd m h l / 2 ^ (64 - m) = h % 2 ^ m := by
        unfold lowd
        rw [Nat.add_comm, Nat.add_mul_div_right _ _ (Nat.two_pow_pos _), Nat.div_eq_of_lt h2, Nat.zero_add]
      have e2 : lowd m h l * 2 ^ m % 18446744073709551616 = clip m l := by
        unfold lowd clip
        rw [Nat.add_mul, Nat.mul_assoc, Nat.mul_comm (2 ^ (64 - m)), hp, Nat.add_comm, Nat.add_mul_mod_self_right, Nat.mod_eq_of_lt]
        exact Nat.lt_of_le_of_lt (Nat.div_mul_le_self _ _) hl
      have e3 : h / 2 ^ m * 2 ^ m % 18446744073709551616 = h / 2 ^ m * 2 ^ m := Nat.mod_eq_of_lt (Nat.lt_of_le_of_lt (Nat.div_mul_le_self _ _) hh)
      have e4 : h / 2 ^ m * 2 ^ m ||| h % 2 ^ m = h := by
        rw [or_add m _ _ (Nat.mul_mod_left _ _) (Nat.mod_lt _ (Nat.two_pow_pos m)), Nat.mul_comm, Nat.div_add_mod]
      rw [up_mid m _ _ (by omega) (by omega) (lowd_lt m h l (by omega) hl), Option.bind_some, e1, e2, e3, e4]
theorem clip_eq {k : Nat} (hk : 1 ≤ k) (h l : Nat) (hh : h < 18446744073709551616) (hl : l < 18446744073709551616) (n : Int) (h0 : 0 ≤ n) (h1 : n ≤ 128) :
    addr_Clip.f k h l n = some (((ch (128 - n).toNat h : Nat) : Int), ((cl (128 - n).toNat l : Nat) : Int), n, true) := by
  obtain ⟨j, rfl⟩ : ∃ j, k = j + 1 := ⟨k - 1, by omega⟩
  unfold addr_Clip.f
  have hw : wrap64 (128 - n) = (((128 - n).toNat : Nat) : Int) := by unfold wrap64; omega
  rw [if_neg (by omega), addr_Clip.j0, decide_eq_false (by omega), if_neg (by decide), hw]
  have hu := updown (128 - n).toNat h l (by omega) hh hl
  obtain ⟨b, hb, hu⟩ := Option.bind_eq_some_iff.1 hu
  obtain ⟨c, hc, hu⟩ := Option.bind_eq_some_iff.1 hu
  simp only [Option.some.injEq, Prod.mk.injEq] at hu
  rw [hb, Option.bind_some, hc, Option.bind_some, hu.1, hu.2]
theorem clip_bad {k : Nat} (hk : 1 ≤ k) (h l n : Int) (hn : n < 0 ∨ n > 128) : addr_Clip.f k h l n = some (0, 0, 0, false) := by
  obtain ⟨j, rfl⟩ : ∃ j, k = j + 1 := ⟨k - 1, by omega⟩
  unfold addr_Clip.f
  by_cases h0 : n < 0
  · rw [if_pos h0, addr_Clip.j0, if_pos rfl]
  · rw [if_neg h0, addr_Clip.j0, decide_eq_true (by omega), if_pos rfl]
/-- A prefix: so many bits, and nothing behind them. -/
def snd (h l : Nat) (n : Int) : Prop := 0 ≤ n ∧ n ≤ 128 ∧ clip (128 - n).toNat (W h l) = W h l
instance (h l : Nat) (n : Int) : Decidable (snd h l n) := by unfold snd; infer_instance
theorem cheq (m h l : Nat) (hm : m ≤ 128) (hh : h < 18446744073709551616) (hl : l < 18446744073709551616) : (ch m h = h ∧ cl m l = l) ↔ clip m (W h l) = W h l := by
  rw [← cW m h l hm hl]
  constructor
  · rintro ⟨e1, e2⟩; rw [e1, e2]
  · intro e; exact W_inj (cl_lt m l hl) hl e
theorem sound_eq {k : Nat} (hk : 1 ≤ k) (h l : Nat) (hh : h < 18446744073709551616) (hl : l < 18446744073709551616) (n : Int) : addr_Sound.f k h l n = some (decide (snd h l n)) := by
  unfold addr_Sound.f
  by_cases hn : 0 ≤ n ∧ n ≤ 128
  · rw [clip_eq hk h l hh hl n hn.1 hn.2, Option.bind_some, if_pos rfl]
    congr 1
    have hc := cheq (128 - n).toNat h l (by omega) hh hl
    rw [Bool.eq_iff_iff]
    simp only [Bool.and_eq_true, beq_iff_eq, decide_eq_true_eq, Int.natCast_inj]
    unfold snd
    rw [← hc]
    constructor
    · rintro ⟨⟨e1, e2⟩, _⟩; exact ⟨hn.1, hn.2, e1, e2⟩
    · rintro ⟨_, _, e1, e2⟩; exact ⟨⟨e1, e2⟩, trivial⟩
  · rw [clip_bad hk _ _ n (by omega), Option.bind_some, if_neg (by decide), decide_eq_false]
    unfold snd
    omega
end Go.Proofs.Ythadapbekmmgpaa.Adr


set_option linter.unusedVariables false
set_option linter.unusedSimpArgs false
namespace Go.Proofs.Ythadapbekmmgpaa.O6
open Go Go.RowKit Go.Proofs.YthadapbekmmgpaaW.PrintWords Go.Proofs.YthadapbekmmgpaaW.PrintLast Go.Proofs.YthadapbekmmgpaaW.PrintMore Go.Proofs.Ythadapbekmmgpaa.X Go.Proofs.Ythadapbekmmgpaa.Oct Go.Proofs.Ythadapbekmmgpaa.Adr Go.Proofs.Ythadapbekmmgpaa.Pre
theorem emL_append : ∀ a b : List S42, emL (a ++ b) = emL a ++ emL b
  | [], b => rfl
  | x :: a, b => by rw [List.cons_append, emL, emL, emL_append a b]; simp only [List.append_assoc]
def okX (x : S58) : Prop := ((0 ≤ x.f0.f0.f0 ∧ x.f0.f0.f0 < 18446744073709551616) ∧ (0 ≤ x.f0.f0.f1 ∧ x.f0.f0.f1 < 18446744073709551616)) ∧ (0 ≤ x.f1 ∧ x.f1 < 4294967296) ∧ (0 ≤ x.f2 ∧ x.f2 < 4294967296)
theorem okX_wf {x : S58} (h : wf58 x) : okX x := ⟨⟨wf_u64 h.1.1.1, wf_u64 h.1.1.2⟩, wf_u32 h.2.1, wf_u32 h.2.2.1⟩
def sd (a b n : Int) : Bool := decide (snd a.toNat b.toNat n)
theorem sd_eq {k : Nat} (hk : 1 ≤ k) (a b n : Int) (ha : 0 ≤ a ∧ a < 18446744073709551616) (hb : 0 ≤ b ∧ b < 18446744073709551616) : addr_Sound.f k a b n = some (sd a b n) := by
  have := sound_eq hk a.toNat b.toNat (by omega) (by omega) n
  rw [Int.toNat_of_nonneg ha.1, Int.toNat_of_nonneg hb.1] at this
  exact this
theorem clip_zero (A : Nat) : clip 0 A = A := by simp [clip]
def cdB (c : Int) : Bool := decide (-1 ≤ c ∧ c ≤ 65535)
def inS (kind : Int) (x : S58) : Bool := cdB x.f3 && (sd x.f0.f0.f0 x.f0.f0.f1 x.f0.f1 && (kind == 4 || x.f0.f1 == 128))
def kdS (kind t1 t2 : Int) : Bool := if kind = 3 then t1 == 0 && t2 == 0 else kind == 2 || kind == 4
def sndS (kind t1 t2 : Int) (l : List S58) (code : Int) : Bool := l.all (inS kind) && (kdS kind t1 t2 && (decide (l.length ≤ 8) && cdB code))
theorem inn_eq (k : Nat) (hk : 1 ≤ k) (kind : Int) (x : S58) (hx : okX x) : inn k kind x = some (inS kind x) := by
  unfold inn inS
  rw [isCode_eq, Option.bind_some, show decide (-1 ≤ x.f3 ∧ x.f3 ≤ 65535) = cdB x.f3 from rfl]
  cases cdB x.f3 with
  | false => rfl
  | true => rw [if_pos rfl, sd_eq hk _ _ _ hx.1.1 hx.1.2]; rfl
theorem innAll_eq (k : Nat) (hk : 1 ≤ k) (kind : Int) : ∀ l : List S58, (∀ x ∈ l, okX x) → innAll k kind l = some (l.all (inS kind))
  | [], _ => rfl
  | x :: l, h => by
    rw [innAll, inn_eq k hk kind x (h x List.mem_cons_self), Option.bind_some, List.all_cons]
    cases inS kind x with
    | false => rfl
    | true => rw [if_pos rfl, innAll_eq k hk kind l (fun y hy => h y (List.mem_cons_of_mem _ hy)), Bool.true_and]
theorem tailS_eq (kind t1 t2 : Int) (n : Nat) (code : Int) : tailS kind t1 t2 n code = some (kdS kind t1 t2 && (decide (n ≤ 8) && cdB code)) := by
  unfold tailS kdS
  by_cases h3 : kind = 3
  · rw [if_pos h3, if_pos h3]
    by_cases ht : t1 = 0 ∧ t2 = 0
    · rw [if_pos ht, isCode_eq, Option.bind_some, ht.1, ht.2]
      rfl
    · rw [if_neg ht]
      have : (t1 == 0 && t2 == 0) = false := by
        cases h : (t1 == 0 && t2 == 0)
        · rfl
        · rw [Bool.and_eq_true] at h
          exact absurd ⟨by simpa using h.1, by simpa using h.2⟩ ht
      rw [this]
      rfl
  · rw [if_neg h3, if_neg h3]
    by_cases h24 : kind = 2 ∨ kind = 4
    · rw [if_pos h24, isCode_eq, Option.bind_some]
      rcases h24 with rfl | rfl <;> rfl
    · rw [if_neg h24]
      have : (kind == 2 || kind == 4) = false := by
        cases h : (kind == 2 || kind == 4)
        · rfl
        · rw [Bool.or_eq_true] at h
          exact absurd (h.imp (fun q => by simpa using q) (fun q => by simpa using q)) h24
      rw [this]
      rfl
theorem soundK_eq (k : Nat) (hk : 1 ≤ k) (kind iaid t1 t2 : Int) (l : List S58) (code : Int) (h : ∀ x ∈ l, okX x) : soundK k kind iaid t1 t2 l code = some (sndS kind t1 t2 l code) := by
  unfold soundK sndS
  rw [innAll_eq k hk kind l h, Option.bind_some]
  cases l.all (inS kind) with
  | false => rfl
  | true => rw [if_pos rfl, tailS_eq, Bool.true_and]
theorem stD_len (c : Int) : (stD c).length ≤ 2 := by unfold stD; split; exact Nat.le_refl 2; exact Nat.zero_le 2
def stZ (c : Int) : List S42 := if c = -1 then [] else [⟨13, B (stD c)⟩]
theorem emit_one (code : Int) (h0 : 0 ≤ code ∧ code < 65536) (d : ByteArray) (hd : d.size ≤ 65535) : opt6_Emit.f [⟨code, d⟩] = some (B (emL [⟨code, d⟩]), 0) := by
  have ho : emOk [(⟨code, d⟩ : S42)] = true := by
    unfold emOk
    rw [List.all_cons, List.all_nil, Bool.and_true]
    exact decide_eq_true hd
  rw [emit_eq _ (fun x hx => by obtain rfl := List.mem_singleton.1 hx; exact h0) (by simp), if_pos ho]
theorem cat_B (parts : List ByteArray) : catS parts = B (parts.map L).flatten := by
  have : ∀ ps : List (List UInt8), Lib.join ps ([] : List UInt8) = ps.flatten := by
    intro ps
    induction ps with
    | nil => rfl
    | cons p ps ih =>
      cases ps with
      | nil => rw [Lib.join_one]; simp
      | cons q qs =>
        have h2 : Lib.join (p :: q :: qs) ([] : List UInt8) = p ++ Lib.join (q :: qs) [] := by simp [Lib.join, List.intercalate, List.intersperse]
        rw [h2, ih]; simp
  unfold catS
  rw [this]
  rfl
theorem join_len (parts : List ByteArray) : (Lib.join (parts.map (·.data.toList)) ([] : List UInt8)).length = (parts.map L).flatten.length := by
  have := congrArg ByteArray.size (cat_B parts)
  exact this
theorem option_eq (code : Int) (h0 : 0 ≤ code ∧ code < 65536) (parts : List ByteArray) (hs : (parts.map L).flatten.length ≤ 65535) : opt6_option.f code parts = some (B (emL [⟨code, B (parts.map L).flatten⟩])) := by
  unfold opt6_option.f
  rw [cat_B, emit_one code h0 (B (parts.map L).flatten) (by rw [size_B]; exact hs)]
  rfl
theorem status_eq (c : Int) (k : Nat) (hk : 10 ≤ k) : opt6_status.f k c = some (B (emL (stZ c))) := by
  unfold opt6_status.f stZ
  by_cases h : c = -1
  · rw [if_pos h, if_pos h]
    rfl
  · have hl := stD_len c
    rw [if_neg h, if_neg h, putStatus_eq c k hk, Option.bind_some, if_pos (by rw [size_B]; omega), option_eq 13 (by omega) _ (by simp [L_B]; omega)]
    simp [L_B]
def inD (kind : Int) (x : S58) : List UInt8 :=
  if kind = 4 then (be4 x.f1 ++ be4 x.f2) ++ ([b8 x.f0.f1] ++ ((be8 x.f0.f0.f0 ++ be8 x.f0.f0.f1) ++ emL (stZ x.f3))) else (be8 x.f0.f0.f0 ++ be8 x.f0.f0.f1) ++ ((be4 x.f1 ++ be4 x.f2) ++ emL (stZ x.f3))
def inO (kind : Int) (x : S58) : S42 := ⟨if kind = 4 then 26 else 5, B (inD kind x)⟩
theorem stZ_len (c : Int) : (emL (stZ c)).length ≤ 6 := by
  unfold stZ
  split
  · exact Nat.zero_le _
  · have := stD_len c
    have hr : runOk (L (B (stD c))) = true := decide_eq_true (by rw [L_B]; omega)
    rw [emL, emL, List.append_nil, List.length_append, be2_length]
    unfold runL
    rw [if_pos hr, List.length_append, be2_length, L_B]
    omega
theorem inD_len (kind : Int) (x : S58) : (inD kind x).length ≤ 31 := by
  have := stZ_len x.f3
  unfold inD
  split <;> simp only [List.length_append, be4_length, be8_length, List.length_cons, List.length_nil] <;> omega
theorem nums1 (a : Int) : strOfNums [a % 256] = B [b8 a] := by
  rw [strOfNums_B _ (by intro x hx; obtain rfl := List.mem_singleton.1 hx; omega), List.map_cons, List.map_nil, b8_mod]
theorem putOne_eq (k : Nat) (hk : 20 ≤ k) (kind : Int) (x : S58) (hx : okX x) : putOne k kind x = some (B (emL [inO kind x])) := by
  have hl := inD_len kind x
  have hst := stZ_len x.f3
  unfold putOne
  rw [Put32 (by omega) _ hx.2.1.1 hx.2.1.2, Option.bind_some, Put32 (by omega) _ hx.2.2.1 hx.2.2.2, Option.bind_some, B_append, if_pos (by rw [size_B, List.length_append, be4_length, be4_length]; omega), putAddr (by omega) _ _ hx.1.1 hx.1.2, Option.bind_some, status_eq _ k (by omega), Option.bind_some, nums1]
  unfold inO inD
  by_cases h4 : kind = 4
  · have e : ([B (be4 x.f1 ++ be4 x.f2), B [b8 x.f0.f1], B (be8 x.f0.f0.f0 ++ be8 x.f0.f0.f1), B (emL (stZ x.f3))].map L).flatten = (be4 x.f1 ++ be4 x.f2) ++ ([b8 x.f0.f1] ++ ((be8 x.f0.f0.f0 ++ be8 x.f0.f0.f1) ++ emL (stZ x.f3))) := by simp [L_B]
    have hz : ((be4 x.f1 ++ be4 x.f2) ++ ([b8 x.f0.f1] ++ ((be8 x.f0.f0.f0 ++ be8 x.f0.f0.f1) ++ emL (stZ x.f3)))).length ≤ 31 := by
      simp only [List.length_append, be4_length, be8_length, List.length_cons, List.length_nil]; omega
    rw [if_pos h4, if_pos h4, if_pos h4, join_len, e, if_pos (by omega), option_eq 26 (by omega) _ (by rw [e]; omega), e]
  · have e : ([B (be8 x.f0.f0.f0 ++ be8 x.f0.f0.f1), B (be4 x.f1 ++ be4 x.f2), B (emL (stZ x.f3))].map L).flatten = (be8 x.f0.f0.f0 ++ be8 x.f0.f0.f1) ++ ((be4 x.f1 ++ be4 x.f2) ++ emL (stZ x.f3)) := by simp [L_B]
    have hz : ((be8 x.f0.f0.f0 ++ be8 x.f0.f0.f1) ++ ((be4 x.f1 ++ be4 x.f2) ++ emL (stZ x.f3))).length ≤ 31 := by
      simp only [List.length_append, be4_length, be8_length]; omega
    rw [if_neg h4, if_neg h4, if_neg h4, join_len, e, if_pos (by omega), option_eq 5 (by omega) _ (by rw [e]; omega), e]
theorem putEach_eq (k : Nat) (hk : 20 ≤ k) (kind : Int) : ∀ (l : List S58) (acc : ByteArray), (∀ x ∈ l, okX x) → acc.size + 65539 * l.length ≤ 140737488355328 → putEach k kind l acc = some (acc ++ B (emL (l.map (inO kind))))
  | [], acc, _, _ => by
    rw [putEach]
    refine congrArg some ?_
    apply ext_L
    rw [L_append, L_B]
    simp [emL]
  | x :: l, acc, h, hs => by
    have h1 := emL_len [inO kind x]
    rw [List.length_cons] at hs
    rw [List.length_singleton] at h1
    rw [putEach, putOne_eq k hk kind x (h x List.mem_cons_self), Option.bind_some, if_pos (by rw [size_B]; omega), putEach_eq k hk kind l _ (fun y hy => h y (List.mem_cons_of_mem _ hy)) (by rw [ByteArray.size_append, size_B]; omega)]
    refine congrArg some ?_
    apply ext_L
    rw [L_append, L_append, L_append, L_B, L_B, L_B, List.map_cons, show inO kind x :: l.map (inO kind) = [inO kind x] ++ l.map (inO kind) from rfl, emL_append, List.append_assoc]
def cdO (kind : Int) : Int := if kind = 2 then 3 else if kind = 3 then 4 else 25
def hdP (kind iaid t1 t2 : Int) : List UInt8 := if kind = 3 then be4 iaid else be4 iaid ++ (be4 t1 ++ be4 t2)
def iaZ (kind : Int) (l : List S58) (code : Int) : List S42 := l.map (inO kind) ++ stZ code
def ok4 (n : Int) : Prop := 0 ≤ n ∧ n < 4294967296
theorem codeOf_eq (kind : Int) : opt6_codeOf.f kind = some (cdO kind) := by
  unfold opt6_codeOf.f cdO
  by_cases h2 : kind = 2
  · rw [if_pos h2, if_pos h2]
  · rw [if_neg h2, if_neg h2]
    by_cases h3 : kind = 3
    · rw [if_pos h3, if_pos h3]
    · rw [if_neg h3, if_neg h3]
theorem putTail_eq (k : Nat) (hk : 20 ≤ k) (kind : Int) (l : List S58) (code : Int) (acc : ByteArray) (h : ∀ x ∈ l, okX x) (hl : l.length ≤ 8) (ha : acc.size ≤ 100) : putTail k kind l code acc = some (cdO kind, acc ++ B (emL (iaZ kind l code)), 0) := by
  have h1 := emL_len (l.map (inO kind))
  have h2 := stZ_len code
  rw [List.length_map] at h1
  unfold putTail
  rw [putEach_eq k hk kind l acc h (by omega), Option.bind_some, status_eq _ k (by omega), Option.bind_some, if_pos (by rw [ByteArray.size_append, size_B, size_B]; omega), codeOf_eq, Option.bind_some]
  refine congrArg some (Prod.ext rfl (Prod.ext ?_ rfl))
  show _ ++ _ ++ _ = _
  apply ext_L
  unfold iaZ
  rw [L_append, L_append, L_append, L_B, L_B, L_B, emL_append, List.append_assoc]
theorem putK_eq (k : Nat) (hk : 20 ≤ k) (kind iaid t1 t2 : Int) (l : List S58) (code : Int) (h : ∀ x ∈ l, okX x) (hi : ok4 iaid) (h1 : ok4 t1) (h2 : ok4 t2) :
    putK k kind iaid t1 t2 l code = some (if sndS kind t1 t2 l code = true then (cdO kind, B (hdP kind iaid t1 t2 ++ emL (iaZ kind l code)), 0) else (0, NIL, 130)) := by
  unfold putK
  rw [soundK_eq k (by omega) kind iaid t1 t2 l code h, Option.bind_some]
  cases hs : sndS kind t1 t2 l code with
  | false => rfl
  | true =>
    have hl : l.length ≤ 8 := by
      unfold sndS at hs
      simp only [Bool.and_eq_true, decide_eq_true_eq] at hs
      exact hs.2.2.1
    have e0 : (⟨#[]⟩ : ByteArray) ++ B (be4 iaid) = B (be4 iaid) := by
      apply ext_L
      rw [L_append]
      rfl
    rw [if_pos rfl, if_pos rfl, Put32 (by omega) _ hi.1 hi.2, Option.bind_some, if_pos (by rw [size_B, be4_length]; omega), e0]
    unfold hdP
    by_cases h3 : kind = 3
    · rw [if_pos h3, if_pos h3, putTail_eq k hk kind l code _ h hl (by rw [size_B, be4_length]; omega), B_append]
    · rw [if_neg h3, if_neg h3, Put32 (by omega) _ h1.1 h1.2, Option.bind_some, Put32 (by omega) _ h2.1 h2.2, Option.bind_some, B_append, B_append, if_pos (by rw [size_B, size_B, List.length_append, be4_length, be4_length, be4_length]; omega), putTail_eq k hk kind l code _ h hl (by rw [size_B, List.length_append, List.length_append, be4_length, be4_length, be4_length]; omega), B_append]
theorem put_f (kind iaid t1 t2 : Int) (l : List S58) (code : Int) (h : ∀ x ∈ l, okX x) (hi : ok4 iaid) (h1 : ok4 t1) (h2 : ok4 t2) :
    opt6_PutIA.f kind iaid t1 t2 l code = some (if sndS kind t1 t2 l code = true then (cdO kind, B (hdP kind iaid t1 t2 ++ emL (iaZ kind l code)), 0) else (0, NIL, 130)) := putK_eq 1000 (by decide) kind iaid t1 t2 l code h hi h1 h2
def stL : List S42 → Int → Option Int
  | [], cur => some cur
  | x :: l, cur => if x.f0 = 13 then (if cutB (L x.f1) 0 2 = true then stL l (if cur = -1 then getN (L x.f1) 0 2 else cur) else none) else stL l cur
def ga (h : List UInt8) (p : Int) : Int × Int := (getN (cutL h p 16) 0 8, getN (cutL h p 16) 8 8)
def rdT (l : List UInt8) (size : Nat) (a0 a1 bits p v : Int) : Except Int S58 :=
  if sd a0 a1 bits = true then (if (opts (l.drop size)).2 = 0 then (match stL (opts (l.drop size)).1 (-1) with | some c => .ok ⟨⟨⟨a0, a1⟩, bits⟩, p, v, c⟩ | none => .error 130) else .error (opts (l.drop size)).2) else .error 130
def rdI (kind : Int) (l : List UInt8) : Except Int S58 :=
  if kind = 4 then (if cutB l 0 25 = true then rdT l 25 (ga (cutL l 0 25) 9).1 (ga (cutL l 0 25) 9).2 (((cutL l 0 25).getD 8 0).toNat : Int) (getN (cutL l 0 25) 0 4) (getN (cutL l 0 25) 4 4) else .error 3)
  else (if cutB l 0 24 = true then rdT l 24 (ga (cutL l 0 24) 0).1 (ga (cutL l 0 24) 0).2 128 (getN (cutL l 0 24) 16 4) (getN (cutL l 0 24) 20 4) else .error 3)
def glL (kind part : Int) : List S42 → List S58 → Int → Except Int (List S58 × Int)
  | [], has, cur => .ok (has, cur)
  | x :: l, has, cur =>
    if x.f0 = 13 then (if cutB (L x.f1) 0 2 = true then glL kind part l has (if cur = -1 then getN (L x.f1) 0 2 else cur) else .error 130)
    else if x.f0 = part then (if 8 ≤ has.length then .error 6 else match rdI kind (L x.f1) with | .ok y => glL kind part l (has ++ [y]) cur | .error e => .error e)
    else glL kind part l has cur
def gB (kind : Int) (size : Nat) (part : Int) (l : List UInt8) : Except Int (Int × Int × Int × List S58 × Int) :=
  if cutB l 0 size = true then (if (opts (l.drop size)).2 = 0 then (match glL kind part (opts (l.drop size)).1 [] (-1) with | .ok y => .ok (getN (cutL l 0 size) 0 4, getN (cutL l 0 size) 4 4, getN (cutL l 0 size) 8 4, y.1, y.2) | .error e => .error e) else .error (opts (l.drop size)).2) else .error 3
end Go.Proofs.Ythadapbekmmgpaa.O6


set_option linter.unusedVariables false
set_option linter.unusedSimpArgs false
namespace Go.Proofs.Ythadapbekmmgpaa.O6
open Go Go.RowKit Go.Proofs.YthadapbekmmgpaaW.PrintWords Go.Proofs.YthadapbekmmgpaaW.PrintLast Go.Proofs.YthadapbekmmgpaaW.PrintMore Go.Proofs.Ythadapbekmmgpaa.X Go.Proofs.Ythadapbekmmgpaa.Oct
/-- One option, or none. -/
def opZ (is : Bool) (code : Int) (data : ByteArray) : List S42 := if is = true then [⟨code, data⟩] else []
theorem w6add_op (is : Bool) (code : Int) (data : ByteArray) (l : List S42) : w6add is code data l = l ++ opZ is code data := by cases is <;> simp [w6add, opZ]
/-- The options that a message's fields tell. -/
def fdZ (m : Ms) : List S42 := opZ (!m.cl.toList.isEmpty) 1 m.cl ++ (opZ (!m.sv.toList.isEmpty) 2 m.sv ++ (opZ (m.code != -1) 13 (B (stD m.code)) ++ (opZ m.rap 14 NIL ++ (opZ m.acc 20 NIL ++ opZ (m.again != 0) 19 (B [b8 m.again])))))
theorem head_fd (m : Ms) : w6head m.cl m.sv m.code (B (stD m.code)) m.rap m.acc m.again = fdZ m := by
  unfold w6head fdZ
  simp only [w6add_op, List.append_assoc, List.nil_append, nums1]
def iaO (a : S51) : S42 := ⟨cdO a.f0, B (hdP a.f0 a.f1 a.f2 a.f3 ++ emL (iaZ a.f0 a.f4 a.f5))⟩
def iaOk (a : S51) : Bool := sndS a.f0 a.f2 a.f3 a.f4 a.f5
def iaF (a : S51) : Prop := (∀ x ∈ a.f4, okX x) ∧ ok4 a.f1 ∧ ok4 a.f2 ∧ ok4 a.f3
theorem w6put_eq : ∀ (l : List S51) (acc : List S42), (∀ a ∈ l, iaF a) → w6put l acc = some (if l.all iaOk = true then (acc ++ l.map iaO, 0) else ([], 130))
  | [], acc, _ => by rw [w6put, List.all_nil, if_pos rfl, List.map_nil, List.append_nil]
  | x :: l, acc, h => by
    have hx := h x List.mem_cons_self
    rw [w6put, put_f x.f0 x.f1 x.f2 x.f3 x.f4 x.f5 hx.1 hx.2.1 hx.2.2.1 hx.2.2.2, Option.bind_some, List.all_cons]
    cases hs : iaOk x with
    | true =>
      rw [if_pos (show sndS x.f0 x.f2 x.f3 x.f4 x.f5 = true from hs), if_pos rfl, w6put_eq l _ (fun a ha => h a (List.mem_cons_of_mem _ ha)), Bool.true_and, List.map_cons]
      by_cases hl : l.all iaOk = true
      · rw [if_pos hl, if_pos hl, List.append_assoc]
        rfl
      · rw [if_neg hl, if_neg hl]
    | false =>
      rw [if_neg (show ¬ sndS x.f0 x.f2 x.f3 x.f4 x.f5 = true from fun e => by rw [show sndS x.f0 x.f2 x.f3 x.f4 x.f5 = iaOk x from rfl, hs] at e; cases e), Bool.false_and, if_neg (by decide), if_neg (by decide)]
def allZ (m : Ms) : List S42 := fdZ m ++ (m.ias.map iaO ++ m.opts)
theorem allZ_len (m : Ms) : (allZ m).length = (fdZ m).length + (m.ias.length + m.opts.length) := by unfold allZ; rw [List.length_append, List.length_append, List.length_map]
theorem options_f (m : Ms) (h : ∀ a ∈ m.ias, iaF a) (hl : m.ias.length + m.opts.length < 5864062014700) : wire6_options.f m.ty m.xid m.cl m.sv m.ias m.code m.rap m.acc m.again m.opts = some (if m.ias.all iaOk = true then (allZ m, 0) else ([], 130)) := by
  unfold wire6_options.f
  rw [if_pos hl, putStatus_eq _ _ (by decide), Option.bind_some, head_fd, w6put_eq _ _ h, Option.bind_some]
  by_cases hs : m.ias.all iaOk = true
  · rw [if_pos hs, if_pos hs, if_pos rfl]
    unfold allZ
    rw [List.append_assoc]
  · rw [if_neg hs, if_neg hs, if_neg (by decide)]
theorem index_go (l : List Int) (x : Int) (hl : l.length ≤ 1000) (d : Nat) : ∀ (k i : Nat), l.length - i = d → i ≤ l.length → d + 1 ≤ k → ∃ r, slices_Index_uint16_uint16.l0 k l x (l.length : Int) (i : Int) = some r ∧ decide (r ≥ 0) = (l.drop i).contains x := by
  induction d with
  | zero =>
    intro k i hd hi hk
    obtain ⟨k, rfl⟩ : ∃ m, k = m + 1 := ⟨k - 1, by omega⟩
    rw [slices_Index_uint16_uint16.l0, if_neg (by omega), List.drop_of_length_le (by omega)]
    exact ⟨_, rfl, rfl⟩
  | succ d ih =>
    intro k i hd hi hk
    obtain ⟨k, rfl⟩ : ∃ m, k = m + 1 := ⟨k - 1, by omega⟩
    have hlt : i < l.length := by omega
    have hr : rd l (i : Int) = l[i] := by simp [rd, List.getD_eq_getElem?_getD, List.getElem?_eq_getElem hlt]
    rw [slices_Index_uint16_uint16.l0, if_pos (by omega), if_pos (by omega), if_pos (by omega), hr, List.drop_eq_getElem_cons hlt, List.contains_cons]
    by_cases hx : x = l[i]
    · rw [if_pos hx]
      refine ⟨_, rfl, ?_⟩
      rw [decide_eq_true (by omega), beq_iff_eq.2 hx]
      rfl
    · rw [if_neg hx, w64 (by omega), (by simpa using hx : (x == l[i]) = false), Bool.false_or]
      exact ih k (i + 1) (by omega) (by omega) (by omega)
def ownB (c : Int) : Bool := [1, 2, 3, 4, 13, 14, 19, 20, 25].contains c
theorem isOwn_eq (k : Nat) (hk : 12 ≤ k) (c : Int) : wire6_isOwn.f k c = some (ownB c) := by
  obtain ⟨r, h1, h2⟩ := index_go [1, 2, 3, 4, 13, 14, 19, 20, 25] c (by decide) 9 k 0 rfl (by decide) (by omega)
  unfold wire6_isOwn.f slices_Contains_uint16_uint16.f slices_Index_uint16_uint16.f
  rw [show slices_Index_uint16_uint16.l0 k [1, 2, 3, 4, 13, 14, 19, 20, 25] c (([1, 2, 3, 4, 13, 14, 19, 20, 25] : List Int).length : Int) 0 = some r from h1, Option.bind_some, Option.bind_some, h2]
  rfl
def opOk (o : S42) : Bool := !ownB o.f0 && decide (o.f1.size ≤ 65535)
def tlS (m : Ms) : Bool := m.ias.all iaOk && decide ((allZ m).length ≤ 128)
def hdS (m : Ms) : Bool := decide (1 ≤ m.ty ∧ m.ty ≤ 11 ∧ m.xid < 16777216 ∧ m.cl.size ≤ 130 ∧ m.sv.size ≤ 130 ∧ m.ias.length ≤ 8 ∧ -1 ≤ m.code ∧ m.code ≤ 65535) && (m.again == 0 || w6again m.again)
/-- Whether it is a message. -/
def sdM (m : Ms) : Bool := hdS m && (m.opts.all opOk && tlS m)
theorem sound_go (m : Ms) (hF : ∀ a ∈ m.ias, iaF a) (ho : m.opts.length ≤ 5864062014650) (hi8 : m.ias.length ≤ 8) (d : Nat) : ∀ (k i : Nat), m.opts.length - i = d → i ≤ m.opts.length → d + 20 ≤ k →
    wire6_Sound.l0 k m.opts (m.opts.length : Int) (i : Int) m.ty m.xid m.cl m.sv m.ias m.code m.rap m.acc m.again m.opts = some ((m.opts.drop i).all opOk && tlS m) := by
  induction d with
  | zero =>
    intro k i hd hi hk
    obtain ⟨k, rfl⟩ : ∃ m, k = m + 1 := ⟨k - 1, by omega⟩
    rw [wire6_Sound.l0, if_neg (by omega), List.drop_of_length_le (by omega), options_f m hF (by omega), Option.bind_some, List.all_nil, Bool.true_and]
    unfold tlS
    cases m.ias.all iaOk with
    | true => rw [if_pos rfl, if_pos rfl, Bool.true_and]; congr 1; exact decide_eq_decide.2 (by show ((allZ m).length : Int) ≤ 128 ↔ _; omega)
    | false => rfl
  | succ d ih =>
    intro k i hd hi hk
    obtain ⟨k, rfl⟩ : ∃ m, k = m + 1 := ⟨k - 1, by omega⟩
    have hlt : i < m.opts.length := by omega
    rw [wire6_Sound.l0, if_pos (by omega), if_pos (by omega), if_pos (by omega), isOwn_eq k (by omega), Option.bind_some, drop_at _ i hlt, List.all_cons]
    unfold opOk
    cases hw : ownB (rd_T42 m.opts (i : Int)).f0 with
    | true => rw [if_pos rfl]; rfl
    | false =>
      rw [if_neg (by decide)]
      by_cases hz : ((rd_T42 m.opts (i : Int)).f1.size : Int) > 65535
      · rw [if_pos hz, decide_eq_false (by omega)]
        rfl
      · rw [if_neg hz, decide_eq_true (by omega), w64 (by omega)]
        exact ih k (i + 1) (by omega) (by omega) (by omega)
theorem j0_bad (m : Ms) (k : Nat) (hk : 1 ≤ k) : wire6_Sound.j0 k true m.ty m.xid m.cl m.sv m.ias m.code m.rap m.acc m.again m.opts = some false := by
  obtain ⟨k, rfl⟩ : ∃ m, k = m + 1 := ⟨k - 1, by omega⟩
  rw [wire6_Sound.j0, if_pos rfl]
theorem sound_eq (m : Ms) (hF : ∀ a ∈ m.ias, iaF a) (ho : m.opts.length ≤ 5864062014650) (k : Nat) (hk : m.opts.length + 30 ≤ k) :
    wire6_Sound.f k m.ty m.xid m.cl m.sv m.ias m.code m.rap m.acc m.again m.opts = some (sdM m) := by
  obtain ⟨k, rfl⟩ : ∃ m, k = m + 3 := ⟨k - 3, by omega⟩
  have hbad : ¬ (1 ≤ m.ty ∧ m.ty ≤ 11 ∧ m.xid < 16777216 ∧ m.cl.size ≤ 130 ∧ m.sv.size ≤ 130 ∧ m.ias.length ≤ 8 ∧ -1 ≤ m.code ∧ m.code ≤ 65535) → some false = some (sdM m) := fun h => by
    unfold sdM hdS
    rw [decide_eq_false h]
    rfl
  unfold wire6_Sound.f
  by_cases h1 : m.ty < 1
  · rw [if_pos h1, j0_bad m _ (by omega)]; exact hbad (by omega)
  rw [if_neg h1]
  by_cases h2 : m.ty > 11
  · rw [if_pos h2, j0_bad m _ (by omega)]; exact hbad (by omega)
  rw [if_neg h2, wire6_Sound.j0]
  by_cases h3 : m.xid ≥ 16777216
  · rw [if_pos (decide_eq_true h3)]; exact hbad (by omega)
  rw [if_neg (by simpa using h3)]
  have hmx : mx (m.cl.size : Int) (m.sv.size : Int) > 130 ↔ ¬ (m.cl.size ≤ 130 ∧ m.sv.size ≤ 130) := by unfold mx; split <;> omega
  by_cases h4 : mx (m.cl.size : Int) (m.sv.size : Int) > 130
  · rw [if_pos h4, wire6_Sound.j1, if_pos rfl]; exact hbad (fun h => hmx.1 h4 ⟨h.2.2.2.1, h.2.2.2.2.1⟩)
  rw [if_neg h4, wire6_Sound.j1]
  have h4' : m.cl.size ≤ 130 ∧ m.sv.size ≤ 130 := Decidable.byContradiction (fun h => h4 (hmx.2 h))
  by_cases h5 : (m.ias.length : Int) > 8
  · rw [if_pos (decide_eq_true h5)]; exact hbad (by omega)
  rw [if_neg (by simpa using h5)]
  by_cases h6 : m.code < -1
  · rw [if_pos h6]; exact hbad (by omega)
  rw [if_neg h6]
  by_cases h7 : m.code > 65535
  · rw [if_pos h7]; exact hbad (by omega)
  rw [if_neg h7]
  have hj : wire6_Sound.j2 (k + 1) m.ty m.xid m.cl m.sv m.ias m.code m.rap m.acc m.again m.opts = some (m.opts.all opOk && tlS m) := by
    rw [wire6_Sound.j2]
    exact sound_go m hF ho (by omega) m.opts.length k 0 (by omega) (by omega) (by omega)
  have hh : hdS m = (m.again == 0 || w6again m.again) := by
    unfold hdS
    rw [decide_eq_true (by omega)]
    exact Bool.true_and _
  unfold sdM
  rw [hj, hh, w6again_f, Option.bind_some]
  by_cases h8 : m.again = 0
  · rw [if_pos h8, beq_iff_eq.2 h8, Bool.true_or, Bool.true_and]
  · rw [if_neg h8, (by simpa using h8 : (m.again == 0) = false), Bool.false_or]
    cases w6again m.again with
    | true => rw [if_pos rfl, Bool.true_and]
    | false => rfl
def msF (m : Ms) : Prop := (∀ a ∈ m.ias, iaF a) ∧ (∀ o ∈ m.opts, okF o) ∧ (0 ≤ m.xid ∧ m.xid < 4294967296) ∧ m.opts.length ≤ 5864062014650
theorem opZ_F {is : Bool} {code : Int} {data : ByteArray} (h : 0 ≤ code ∧ code < 65536) : ∀ x ∈ opZ is code data, okF x := fun x hx => by
  cases is with
  | false => cases hx
  | true => obtain rfl := List.mem_singleton.1 hx; exact h
theorem opZ_ok {is : Bool} {code : Int} {data : ByteArray} (h : is = true → data.size ≤ 65535) : emOk (opZ is code data) = true := by
  cases is with
  | false => rfl
  | true =>
    show (runOk (L data) && true) = true
    rw [Bool.and_true]
    exact decide_eq_true (h rfl)
theorem emOk_app (a b : List S42) : emOk (a ++ b) = (emOk a && emOk b) := by unfold emOk; rw [List.all_append]
theorem fdZ_F (m : Ms) : ∀ x ∈ fdZ m, okF x := fun x hx => by
  unfold fdZ at hx
  simp only [List.mem_append] at hx
  rcases hx with h | h | h | h | h | h <;> exact opZ_F (by decide) x h
theorem fdZ_ok (m : Ms) (h1 : m.cl.size ≤ 65535) (h2 : m.sv.size ≤ 65535) : emOk (fdZ m) = true := by
  unfold fdZ
  have h3 := stD_len m.code
  simp only [emOk_app, Bool.and_eq_true]
  exact ⟨opZ_ok (fun _ => h1), opZ_ok (fun _ => h2), opZ_ok (fun _ => by rw [size_B]; omega), opZ_ok (fun _ => by decide), opZ_ok (fun _ => by decide), opZ_ok (fun _ => Nat.le_trans (Nat.le_refl 1) (by decide))⟩
theorem cdO_F (kind : Int) : 0 ≤ cdO kind ∧ cdO kind < 65536 := by unfold cdO; split; decide; split <;> decide
theorem iaO_F (l : List S51) : ∀ x ∈ l.map iaO, okF x := fun x hx => by
  obtain ⟨a, _, rfl⟩ := List.mem_map.1 hx
  exact cdO_F a.f0
theorem em1 (x : S42) (h : (L x.f1).length ≤ 65535) : (emL [x]).length = 4 + (L x.f1).length := by
  rw [emL, emL, List.append_nil, List.length_append, be2_length]
  unfold runL
  rw [if_pos (show runOk (L x.f1) = true from decide_eq_true h), List.length_append, be2_length]
  omega
theorem emMap_len (kind : Int) : ∀ l : List S58, (emL (l.map (inO kind))).length ≤ 35 * l.length
  | [] => Nat.le_refl _
  | x :: l => by
    have h1 := emMap_len kind l
    have h2 := inD_len kind x
    have h3 := em1 (inO kind x) (by show (inD kind x).length ≤ 65535; omega)
    have h4 : (L (inO kind x).f1).length = (inD kind x).length := rfl
    rw [List.map_cons, show inO kind x :: l.map (inO kind) = [inO kind x] ++ l.map (inO kind) from rfl, emL_append, List.length_append, List.length_cons]
    omega
theorem iaD_len (a : S51) (h : a.f4.length ≤ 8) : (iaO a).f1.size ≤ 298 := by
  have h1 := emMap_len a.f0 a.f4
  have h2 := stZ_len a.f5
  show (hdP a.f0 a.f1 a.f2 a.f3 ++ emL (iaZ a.f0 a.f4 a.f5)).length ≤ 298
  have h3 : (hdP a.f0 a.f1 a.f2 a.f3).length ≤ 12 := by unfold hdP; split <;> simp [be4]
  unfold iaZ
  rw [List.length_append, emL_append, List.length_append]
  omega
theorem iaOk_len {a : S51} (h : iaOk a = true) : a.f4.length ≤ 8 := by
  unfold iaOk sndS at h
  simp only [Bool.and_eq_true, decide_eq_true_eq] at h
  exact h.2.2.1
theorem iaO_ok (l : List S51) (h : l.all iaOk = true) : emOk (l.map iaO) = true := by
  unfold emOk
  rw [List.all_map, List.all_eq_true]
  intro a ha
  have := iaD_len a (iaOk_len (List.all_eq_true.1 h a ha))
  exact decide_eq_true (show (L (iaO a).f1).length ≤ 65535 by rw [← size_L]; omega)
structure SdM (m : Ms) : Prop where
  ty : 1 ≤ m.ty ∧ m.ty ≤ 11
  xid : m.xid < 16777216
  cl : m.cl.size ≤ 130
  sv : m.sv.size ≤ 130
  ias : m.ias.length ≤ 8
  code : -1 ≤ m.code ∧ m.code ≤ 65535
  again : (m.again == 0 || w6again m.again) = true
  opts : m.opts.all opOk = true
  iaOk : m.ias.all iaOk = true
  all : (allZ m).length ≤ 128
theorem sdM_iff (m : Ms) : sdM m = true ↔ SdM m := by
  unfold sdM hdS tlS
  simp only [Bool.and_eq_true, decide_eq_true_eq]
  constructor
  · rintro ⟨⟨⟨h1, h2, h3, h4, h5, h6, h7, h8⟩, h9⟩, h10, h11, h12⟩
    exact ⟨⟨h1, h2⟩, h3, h4, h5, h6, ⟨h7, h8⟩, h9, h10, h11, h12⟩
  · rintro ⟨⟨h1, h2⟩, h3, h4, h5, h6, ⟨h7, h8⟩, h9, h10, h11, h12⟩
    exact ⟨⟨⟨h1, h2, h3, h4, h5, h6, h7, h8⟩, h9⟩, h10, h11, h12⟩
theorem allZ_F {m : Ms} (h : msF m) : ∀ x ∈ allZ m, okF x := fun x hx => by
  unfold allZ at hx
  rcases List.mem_append.1 hx with hx | hx
  · exact fdZ_F m x hx
  · rcases List.mem_append.1 hx with hx | hx
    · exact iaO_F _ x hx
    · exact h.2.1 x hx
theorem allZ_ok {m : Ms} (h : SdM m) : emOk (allZ m) = true := by
  unfold allZ
  rw [emOk_app, emOk_app, fdZ_ok m (by have := h.cl; omega) (by have := h.sv; omega), iaO_ok _ h.iaOk, Bool.true_and, Bool.true_and]
  unfold emOk
  rw [List.all_eq_true]
  intro o ho
  have := List.all_eq_true.1 h.opts o ho
  unfold opOk at this
  rw [Bool.and_eq_true, decide_eq_true_eq] at this
  exact decide_eq_true this.2
/-- What Encode answers. -/
def hd4 (m : Ms) : List UInt8 := be4 (m.ty * 16777216 + m.xid)
def enM (m : Ms) : ByteArray × Int := if sdM m = true then (if 4 + (emL (allZ m)).length ≤ 65507 then (B (hd4 m ++ emL (allZ m)), 0) else (NIL, 6)) else (NIL, 141)
theorem sizes : ∀ zs : List S42, emOk zs = true → ∀ x ∈ zs, 4 + x.f1.size ≤ (emL zs).length
  | [], _, x, hx => by cases hx
  | y :: zs, h, x, hx => by
    have hy := emOk_cons h
    have h1 := em1 y (of_decide_eq_true hy.1)
    rw [show y :: zs = [y] ++ zs from rfl, emL_append, List.length_append]
    rcases List.mem_cons.1 hx with rfl | hx
    · rw [← size_L] at h1; omega
    · have := sizes zs hy.2 x hx; omega
theorem enc_go (m : Ms) (hm : msF m) (hs : SdM m) (d : Nat) : ∀ (k i : Nat), (allZ m).length - i = d → i ≤ (allZ m).length → d + 20 ≤ k → (4 + (emL (allZ m)).length ≤ 65507 → ∀ x ∈ (allZ m).drop i, x.f1.size ≤ 65507) →
    wire6_Encode.l0 k (allZ m) (allZ m) ((allZ m).length : Int) (i : Int) m.ty m.xid m.cl m.sv m.ias m.code m.rap m.acc m.again m.opts = some (if 4 + (emL (allZ m)).length ≤ 65507 then (B (hd4 m ++ emL (allZ m)), 0) else (NIL, 6)) := by
  have hlen := hs.all
  have hok := allZ_ok hs
  have hF := allZ_F hm
  induction d with
  | zero =>
    intro k i hd hi hk hx
    obtain ⟨k, rfl⟩ : ∃ m, k = m + 1 := ⟨k - 1, by omega⟩
    have hb := emL_len (allZ m)
    rw [wire6_Encode.l0, if_neg (by omega), emit_eq _ hF hlen, if_pos hok, Option.bind_some, if_pos rfl]
    dsimp only
    rw [size_B, w64 (by omega)]
    by_cases h : 4 + (emL (allZ m)).length ≤ 65507
    · have ht := hs.ty
      have hx0 := hm.2.2.1
      have hx1 := hs.xid
      have e : Go.bits .or .u32 (((m.ty % 4294967296) * 16777216) % 4294967296) m.xid = m.ty * 16777216 + m.xid := by
        rw [show ((m.ty % 4294967296) * 16777216) % 4294967296 = m.ty * 16777216 by omega, u32_or _ _ (by omega) (by omega) (by omega) (by omega)]
        have e1 : (m.ty * 16777216).toNat = m.ty.toNat <<< 24 := by rw [Nat.shiftLeft_eq]; omega
        rw [e1, ← Nat.shiftLeft_add_eq_or_of_lt (by omega : m.xid.toNat < 2 ^ 24), ← e1]
        omega
      rw [if_neg (by omega), if_pos h, e, Put32 (by omega) _ (by omega) (by omega), Option.bind_some, if_pos (by rw [size_B, be4_length]; omega), B_append]
      rfl
    · rw [if_pos (by omega), if_neg h]
  | succ d ih =>
    intro k i hd hi hk hx
    obtain ⟨k, rfl⟩ : ∃ m, k = m + 1 := ⟨k - 1, by omega⟩
    have hlt : i < (allZ m).length := by omega
    have hdr := drop_at _ i hlt
    have hmem : rd_T42 (allZ m) (i : Int) ∈ allZ m := List.mem_of_mem_drop (hdr ▸ List.mem_cons_self : rd_T42 (allZ m) (i : Int) ∈ (allZ m).drop i)
    have hsz := sizes _ hok _ hmem
    rw [wire6_Encode.l0, if_pos (by omega), if_pos (by omega), if_pos (by omega)]
    by_cases hz : ((rd_T42 (allZ m) (i : Int)).f1.size : Int) > 65507
    · rw [if_pos hz, if_neg (by omega)]
    · rw [if_neg hz, w64 (by omega)]
      exact ih k (i + 1) (by omega) (by omega) (by omega) (fun h x hx' => hx h x (by rw [hdr]; exact List.mem_cons_of_mem _ hx'))
theorem encode_eq (m : Ms) (hm : msF m) (k : Nat) (hk : m.opts.length + 200 ≤ k) :
    wire6_Encode.f k m.ty m.xid m.cl m.sv m.ias m.code m.rap m.acc m.again m.opts = some (enM m) := by
  unfold wire6_Encode.f enM
  rw [sound_eq m hm.1 hm.2.2.2 k (by omega), Option.bind_some]
  by_cases h : sdM m = true
  · have hs := (sdM_iff m).1 h
    have h8 := hs.ias
    have h1 := hm.2.2.2
    have h2 := hs.all
    rw [if_pos h, if_pos h, options_f m hm.1 (by omega), if_pos hs.iaOk, Option.bind_some]
    refine enc_go m hm hs (allZ m).length k 0 (by omega) (by omega) (by omega) (fun h x hx => ?_)
    have := sizes _ (allZ_ok hs) x (by simpa using hx)
    omega
  · rw [if_neg h, if_neg h]
end Go.Proofs.Ythadapbekmmgpaa.O6


set_option linter.unusedVariables false
set_option linter.unusedSimpArgs false
namespace Go.Proofs.Ythadapbekmmgpaa.O6
open Go Go.RowKit Go.Proofs.YthadapbekmmgpaaW.PrintWords Go.Proofs.YthadapbekmmgpaaW.PrintLast Go.Proofs.YthadapbekmmgpaaW.PrintMore Go.Proofs.Ythadapbekmmgpaa.X Go.Proofs.Ythadapbekmmgpaa.Oct Go.Proofs.Ythadapbekmmgpaa.Adr Go.Proofs.Ythadapbekmmgpaa.Pre

/-- One bit, the first is the highest. -/
def bitn (h l i : Nat) : Nat := if i < 64 then h / 2 ^ (63 - i) % 2 else l / 2 ^ (127 - i) % 2
theorem and_one (x : Nat) (hx : x < 18446744073709551616) : Go.bits .and .u64 (x : Int) 1 = ((x % 2 : Nat) : Int) := by
  have := Go.u64_and_nat x 1 hx (by decide)
  rw [Nat.and_one_is_mod] at this
  exact this
theorem bit_eq (h l i : Nat) (hh : h < 18446744073709551616) (hl : l < 18446744073709551616) (hi : i < 128) : tenancyref01_bit.f h l (i : Int) = some ((bitn h l i : Nat) : Int) := by
  unfold tenancyref01_bit.f bitn
  by_cases c : i < 64
  · have hw : IntKind.u64.wrap (wrap64 (63 - (i : Int))) = ((63 - i : Nat) : Int) := by rw [Adr.u64_wrap]; unfold wrap64; omega
    rw [if_pos (by omega), if_pos c, hw, if_pos (by omega), shr_nat _ _ (by omega), and_one _ (Nat.lt_of_le_of_lt (Nat.div_le_self _ _) hh)]
  · have hw : IntKind.u64.wrap (wrap64 (127 - (i : Int))) = ((127 - i : Nat) : Int) := by rw [Adr.u64_wrap]; unfold wrap64; omega
    rw [if_neg (by omega), if_neg c, hw, if_pos (by omega), shr_nat _ _ (by omega), and_one _ (Nat.lt_of_le_of_lt (Nat.div_le_self _ _) hl)]
theorem pow_small (m : Nat) (hm : m < 64) : 2 ^ m < 18446744073709551616 := by
  have := Nat.pow_lt_pow_right (a := 2) (by decide) hm
  omega
theorem shl_one (m : Nat) (hm : m < 64) : shl .u64 1 (m : Int) = ((2 ^ m : Nat) : Int) := by
  have h := shl_nat 1 m (by omega)
  rw [Nat.one_mul, Nat.mod_eq_of_lt (pow_small m hm)] at h
  exact h
theorem with_hi (h l i : Nat) (hh : h < 18446744073709551616) (hi : i < 64) : tenancyref01_with.f h l (i : Int) = some (((h ||| 2 ^ (63 - i) : Nat) : Int), (l : Int)) := by
  unfold tenancyref01_with.f
  have hw : IntKind.u64.wrap (wrap64 (63 - (i : Int))) = ((63 - i : Nat) : Int) := by rw [Adr.u64_wrap]; unfold wrap64; omega
  rw [if_pos (by omega), hw, if_pos (by omega), shl_one _ (by omega), Go.u64_or_nat _ _ hh (pow_small _ (by omega))]
theorem with_lo (h l i : Nat) (hl : l < 18446744073709551616) (hi : 64 ≤ i) (hi2 : i < 128) : tenancyref01_with.f h l (i : Int) = some ((h : Int), ((l ||| 2 ^ (127 - i) : Nat) : Int)) := by
  unfold tenancyref01_with.f
  have hw : IntKind.u64.wrap (wrap64 (127 - (i : Int))) = ((127 - i : Nat) : Int) := by rw [Adr.u64_wrap]; unfold wrap64; omega
  rw [if_neg (by omega), hw, if_pos (by omega), shl_one _ (by omega), Go.u64_or_nat _ _ hl (pow_small _ (by omega))]
theorem clip_top (A : Nat) (h : A < 18446744073709551616) : clip 64 A = 0 := by
  unfold clip
  rw [Nat.div_eq_of_lt (by omega), Nat.zero_mul]
theorem bit_set (j A : Nat) (h : A / 2 ^ j % 2 = 1) : clip (j + 1) A ||| 2 ^ j = clip j A := by
  rw [or_bit, clip_bit j A, h, Nat.one_mul]
theorem bit_unset (j A : Nat) (h : ¬ A / 2 ^ j % 2 = 1) : clip (j + 1) A = clip j A := by
  rw [clip_bit j A, show A / 2 ^ j % 2 = 0 by omega, Nat.zero_mul]; rfl
theorem clip_lt64 (k A : Nat) (h : A < 18446744073709551616) : clip k A < 18446744073709551616 := Nat.lt_of_le_of_lt (clip_le k A) h
theorem clip_loop (h l : Nat) (hh : h < 18446744073709551616) (hl : l < 18446744073709551616) (n : Nat) (hn : n ≤ 128) : ∀ (d k i : Nat), i + d = n → d < k →
    tenancyref01_Clip.l0 k (n : Int) (i : Int) h l (ch (128 - i) h : Nat) (cl (128 - i) l : Nat) = some (((ch (128 - n) h : Nat) : Int), ((cl (128 - n) l : Nat) : Int), (n : Int), true)
  | 0, k, i, hi, hk => by
    obtain ⟨j, rfl⟩ : ∃ j, k = j + 1 := ⟨k - 1, by omega⟩
    rw [tenancyref01_Clip.l0, if_neg (by omega), show i = n by omega]
  | d + 1, k, i, hi, hk => by
    obtain ⟨j, rfl⟩ : ∃ j, k = j + 1 := ⟨k - 1, by omega⟩
    have ih := clip_loop h l hh hl n hn d j (i + 1) (by omega) (by omega)
    have hwi : wrap64 ((i : Int) + 1) = ((i + 1 : Nat) : Int) := by unfold wrap64; omega
    rw [tenancyref01_Clip.l0, if_pos (by omega), bit_eq h l i hh hl (by omega), Option.bind_some, hwi]
    unfold bitn
    by_cases c : i < 64
    · have e1 : ch (128 - i) h = clip (63 - i + 1) h := by unfold ch; rw [if_pos (by omega)]; congr 1; omega
      have e2 : ch (128 - (i + 1)) h = clip (63 - i) h := by unfold ch; rw [if_pos (by omega)]; congr 1; omega
      have e3 : cl (128 - i) l = 0 := by unfold cl; rw [if_pos (by omega)]
      have e4 : cl (128 - (i + 1)) l = 0 := by unfold cl; rw [if_pos (by omega)]
      rw [e2, e4] at ih
      rw [if_pos c, e1, e3]
      by_cases b : h / 2 ^ (63 - i) % 2 = 1
      · rw [if_pos (by omega), with_hi _ _ i (clip_lt64 _ _ hh) c, Option.bind_some, bit_set _ _ b]
        exact ih
      · rw [if_neg (by omega), bit_unset _ _ b]
        exact ih
    · have e1 : ch (128 - i) h = h := by
        unfold ch
        split
        · rw [show 128 - i - 64 = 0 by omega, clip_zero]
        · rfl
      have e2 : ch (128 - (i + 1)) h = h := by unfold ch; rw [if_neg (by omega)]
      have e3 : cl (128 - i) l = clip (127 - i + 1) l := by
        unfold cl
        split
        · rw [show 127 - i + 1 = 64 by omega, clip_top l hl]
        · congr 1; omega
      have e4 : cl (128 - (i + 1)) l = clip (127 - i) l := by unfold cl; rw [if_neg (by omega)]; congr 1; omega
      rw [e2, e4] at ih
      rw [if_neg c, e1, e3]
      by_cases b : l / 2 ^ (127 - i) % 2 = 1
      · rw [if_pos (by omega), with_lo _ _ i (clip_lt64 _ _ hl) (by omega) (by omega), Option.bind_some, bit_set _ _ b]
        exact ih
      · rw [if_neg (by omega), bit_unset _ _ b]
        exact ih
theorem rclip_eq {k : Nat} (hk : 200 ≤ k) (h l : Nat) (hh : h < 18446744073709551616) (hl : l < 18446744073709551616) (n : Int) (h0 : 0 ≤ n) (h1 : n ≤ 128) :
    tenancyref01_Clip.f k h l n = some (((ch (128 - n).toNat h : Nat) : Int), ((cl (128 - n).toNat l : Nat) : Int), n, true) := by
  obtain ⟨j, rfl⟩ : ∃ j, k = j + 1 := ⟨k - 1, by omega⟩
  obtain ⟨m, rfl⟩ : ∃ m : Nat, n = (m : Int) := ⟨n.toNat, by omega⟩
  unfold tenancyref01_Clip.f
  rw [if_neg (by omega), tenancyref01_Clip.j0, decide_eq_false (by omega), if_neg (by decide)]
  have := clip_loop h l hh hl m (by omega) m j 0 (by omega) (by omega)
  have c0 : ch (128 - 0) h = 0 := by
    unfold ch
    rw [if_pos (by omega), show 128 - 0 - 64 = 64 by omega]
    exact clip_top h hh
  have c1 : cl (128 - 0) l = 0 := by
    unfold cl
    rw [if_pos (by omega)]
  rw [c0, c1, show ((0 : Nat) : Int) = 0 from rfl] at this
  rw [show (128 - (m : Int)).toNat = 128 - m by omega]
  exact this
theorem rclip_bad {k : Nat} (hk : 1 ≤ k) (h l n : Int) (hn : n < 0 ∨ n > 128) : tenancyref01_Clip.f k h l n = some (0, 0, 0, false) := by
  obtain ⟨j, rfl⟩ : ∃ j, k = j + 1 := ⟨k - 1, by omega⟩
  unfold tenancyref01_Clip.f
  by_cases h0 : n < 0
  · rw [if_pos h0, tenancyref01_Clip.j0, if_pos rfl]
  · rw [if_neg h0, tenancyref01_Clip.j0, decide_eq_true (by omega), if_pos rfl]
theorem rsound_eq {k : Nat} (hk : 200 ≤ k) (h l : Nat) (hh : h < 18446744073709551616) (hl : l < 18446744073709551616) (n : Int) : tenancyref01_Sound.f k h l n = some (decide (snd h l n)) := by
  unfold tenancyref01_Sound.f
  by_cases hn : 0 ≤ n ∧ n ≤ 128
  · rw [rclip_eq hk h l hh hl n hn.1 hn.2, Option.bind_some, if_pos rfl]
    congr 1
    have hc := cheq (128 - n).toNat h l (by omega) hh hl
    rw [Bool.eq_iff_iff]
    simp only [Bool.and_eq_true, beq_iff_eq, decide_eq_true_eq, Int.natCast_inj]
    unfold snd
    rw [← hc]
    constructor
    · rintro ⟨⟨e1, e2⟩, _⟩; exact ⟨hn.1, hn.2, e1, e2⟩
    · rintro ⟨_, _, e1, e2⟩; exact ⟨⟨e1, e2⟩, trivial⟩
  · rw [rclip_bad (by omega) _ _ n (by omega), Option.bind_some, if_neg (by decide), decide_eq_false]
    unfold snd
    omega
theorem rsd_eq {k : Nat} (hk : 200 ≤ k) (a b n : Int) (ha : 0 ≤ a ∧ a < 18446744073709551616) (hb : 0 ≤ b ∧ b < 18446744073709551616) : tenancyref01_Sound.f k a b n = some (sd a b n) := by
  have := rsound_eq hk a.toNat b.toNat (by omega) (by omega) n
  rw [Int.toNat_of_nonneg ha.1, Int.toNat_of_nonneg hb.1] at this
  exact this
end Go.Proofs.Ythadapbekmmgpaa.O6


set_option linter.unusedVariables false
set_option linter.unusedSimpArgs false
namespace Go.Proofs.Ythadapbekmmgpaa.Oct
open Go.RowKit Go.Proofs.YthadapbekmmgpaaW.PrintWords Go.Proofs.YthadapbekmmgpaaW.PrintLast Go.Proofs.YthadapbekmmgpaaW.PrintMore Go.Proofs.Ythadapbekmmgpaa.X

theorem rput2 {k : Nat} (hk : 4 ≤ k) (a : Int) (h0 : 0 ≤ a) (h1 : a < 65536) : tenancyref04_put.f k a 2 = some (B (be2 a)) := by
  obtain ⟨k, rfl⟩ : ∃ m, k = m + 4 := ⟨k - 4, by omega⟩
  have e : strOfNums [a / 256 % 256, a % 256] = B (be2 a) := by
    rw [strOfNums_B _ (by intro x hx; simp at hx; omega)]
    simp [be2, b8_mod]
  rw [← e]
  simp [tenancyref04_put.f, tenancyref04_put.l0, wrap64, shr, IntKind.bits, u64_wrap]
theorem rput4 {k : Nat} (hk : 6 ≤ k) (a : Int) (h0 : 0 ≤ a) (h1 : a < 4294967296) : tenancyref04_put.f k a 4 = some (B (be4 a)) := by
  obtain ⟨k, rfl⟩ : ∃ m, k = m + 6 := ⟨k - 6, by omega⟩
  have e : strOfNums [a / 16777216 % 256, a / 65536 % 256, a / 256 % 256, a % 256] = B (be4 a) := by
    rw [strOfNums_B _ (by intro x hx; simp at hx; omega)]
    simp [be4, b8_mod]
  rw [← e]
  simp [tenancyref04_put.f, tenancyref04_put.l0, wrap64, shr, IntKind.bits, u64_wrap]
theorem rput8 {k : Nat} (hk : 10 ≤ k) (a : Int) (h0 : 0 ≤ a) (h1 : a < 18446744073709551616) : tenancyref04_put.f k a 8 = some (B (be8 a)) := by
  obtain ⟨k, rfl⟩ : ∃ m, k = m + 10 := ⟨k - 10, by omega⟩
  have e : strOfNums [a / 72057594037927936 % 256, a / 281474976710656 % 256, a / 1099511627776 % 256, a / 4294967296 % 256, a / 16777216 % 256, a / 65536 % 256, a / 256 % 256, a % 256] = B (be8 a) := by
    rw [strOfNums_B _ (by intro x hx; simp at hx; omega)]
    simp [be8, b8_mod]
  rw [← e]
  simp [tenancyref04_put.f, tenancyref04_put.l0, wrap64, shr, IntKind.bits, u64_wrap]
theorem rPut16 {k : Nat} (hk : 4 ≤ k) (a : Int) (h0 : 0 ≤ a) (h1 : a < 65536) : tenancyref04_Put16.f k a = some (B (be2 a)) := by
  unfold tenancyref04_Put16.f; rw [u64_wrap, Int.emod_eq_of_lt h0 (by omega), rput2 hk a h0 h1]; rfl
theorem rrun {k : Nat} (hk : 4 ≤ k) (s : ByteArray) : tenancyref04_Run.f k s = some (B (runL (L s)), runOk (L s)) := by
  unfold tenancyref04_Run.f runL
  have hl : ((L s).length : Int) = s.size := by rw [size_L]
  by_cases h : (s.size : Int) > 65535
  · have hb : runOk (L s) = false := by simp only [runOk, decide_eq_false_iff_not]; omega
    rw [if_pos h, hb]; rfl
  · have hb : runOk (L s) = true := by simp only [runOk, decide_eq_true_eq]; omega
    rw [if_neg h, hb, if_pos rfl, u16_wrap, Int.emod_eq_of_lt (by omega) (by omega), rPut16 hk _ (by omega) (by omega)]
    simp only [Option.bind_some]
    rw [if_pos (by rw [size_B, be2_length]; omega), hl]
    refine congrArg some (Prod.ext ?_ rfl)
    apply ext_L
    rw [L_append, L_B, L_B]
end Go.Proofs.Ythadapbekmmgpaa.Oct


set_option linter.unusedVariables false
set_option linter.unusedSimpArgs false
namespace Go.Proofs.Ythadapbekmmgpaa.Oct
open Go.RowKit Go.Proofs.YthadapbekmmgpaaW.PrintWords Go.Proofs.YthadapbekmmgpaaW.PrintLast Go.Proofs.YthadapbekmmgpaaW.PrintMore Go.Proofs.Ythadapbekmmgpaa.X

theorem rPut32 {k : Nat} (hk : 6 ≤ k) (a : Int) (h0 : 0 ≤ a) (h1 : a < 4294967296) : tenancyref04_Put32.f k a = some (B (be4 a)) := by
  unfold tenancyref04_Put32.f; rw [u64_wrap, Int.emod_eq_of_lt h0 (by omega), rput4 hk a h0 h1]; rfl
theorem rPut64 {k : Nat} (hk : 10 ≤ k) (a : Int) (h0 : 0 ≤ a) (h1 : a < 18446744073709551616) : tenancyref04_Put64.f k a = some (B (be8 a)) := by
  unfold tenancyref04_Put64.f; rw [rput8 hk a h0 h1]; rfl
theorem rputAddr {k : Nat} (hk : 10 ≤ k) (a b : Int) (h0 : 0 ≤ a ∧ a < 18446744073709551616) (h1 : 0 ≤ b ∧ b < 18446744073709551616) : tenancyref04_PutAddr.f k a b = some (B (be8 a ++ be8 b)) := by
  unfold tenancyref04_PutAddr.f
  rw [rPut64 hk a h0.1 h0.2, rPut64 hk b h1.1 h1.2]
  simp only [Option.bind_some]
  rw [if_pos (by rw [size_B, size_B, be8_length, be8_length]; omega), B_append]
end Go.Proofs.Ythadapbekmmgpaa.Oct


set_option linter.unusedVariables false
set_option linter.unusedSimpArgs false
namespace Go.Proofs.Ythadapbekmmgpaa.O6
open Go Go.RowKit Go.Proofs.YthadapbekmmgpaaW.PrintWords Go.Proofs.YthadapbekmmgpaaW.PrintLast Go.Proofs.YthadapbekmmgpaaW.PrintMore Go.Proofs.Ythadapbekmmgpaa.X Go.Proofs.Ythadapbekmmgpaa.Oct
theorem rputStatus_eq (c : Int) (k : Nat) (hk : 10 ≤ k) : tenancyref15_PutStatus.f k c = some (B (stD c)) := by
  unfold tenancyref15_PutStatus.f stD
  by_cases h1 : c < 0
  · rw [if_pos h1, if_neg (by omega)]
    rfl
  · rw [if_neg h1]
    by_cases h2 : c > 65535
    · rw [if_pos h2, if_neg (by omega)]
      rfl
    · rw [if_neg h2, if_pos (by omega), u16_wrap, Int.emod_eq_of_lt (by omega) (by omega), rPut16 (by omega) c (by omega) (by omega), Option.bind_some]
end Go.Proofs.Ythadapbekmmgpaa.O6


set_option linter.unusedVariables false
set_option linter.unusedSimpArgs false
namespace Go.Proofs.Ythadapbekmmgpaa.O6
open Go Go.RowKit Go.Proofs.YthadapbekmmgpaaW.PrintWords Go.Proofs.YthadapbekmmgpaaW.PrintLast Go.Proofs.YthadapbekmmgpaaW.PrintMore Go.Proofs.Ythadapbekmmgpaa.X Go.Proofs.Ythadapbekmmgpaa.Oct Go.Proofs.Ythadapbekmmgpaa.Adr Go.Proofs.Ythadapbekmmgpaa.Pre
theorem roption_eq (code : Int) (h0 : 0 ≤ code ∧ code < 65536) (s : ByteArray) (hs : s.size ≤ 65535) (k : Nat) (hk : 10 ≤ k) : tenancyref15_option.f k code s = some (B (emL [⟨code, s⟩])) := by
  have hr : runOk (L s) = true := decide_eq_true hs
  have hb := runL_len (L s)
  unfold tenancyref15_option.f
  rw [rrun (by omega) s, Option.bind_some, rPut16 (by omega) code h0.1 h0.2, Option.bind_some]
  dsimp only
  rw [if_pos (by rw [size_B, size_B, be2_length]; omega), B_append, emL, emL, List.append_nil]
theorem rstat_eq (c : Int) : tenancyref15_status.f c = some (cdB c) := by
  unfold tenancyref15_status.f cdB
  by_cases h : c ≥ -1
  · rw [if_pos h]
    by_cases h2 : c ≤ 65535
    · rw [decide_eq_true h2, decide_eq_true (show -1 ≤ c ∧ c ≤ 65535 from ⟨h, h2⟩)]
    · rw [decide_eq_false h2, decide_eq_false (fun q => h2 q.2)]
  · rw [if_neg h, decide_eq_false (fun q => h q.1)]
theorem drop76 (zs : List S58) (i : Nat) (h : i < zs.length) : zs.drop i = rd_T58 zs (i : Int) :: zs.drop (i + 1) := by
  rw [List.drop_eq_getElem_cons h]
  simp [rd_T58, List.getD_eq_getElem?_getD, List.getElem?_eq_getElem h]
theorem mem76 (zs : List S58) (i : Nat) (h : i < zs.length) : rd_T58 zs (i : Int) ∈ zs := by
  have : rd_T58 zs (i : Int) = zs[i] := by simp [rd_T58, List.getD_eq_getElem?_getD, List.getElem?_eq_getElem h]
  rw [this]
  exact List.getElem_mem h
theorem rs_go (kind iaid t1 t2 : Int) (l : List S58) (code : Int) (hl : l.length ≤ 8) (ok : ∀ x ∈ l, okX x) (d : Nat) : ∀ (k i : Nat), l.length - i = d → i ≤ l.length → 300 + d ≤ k →
    tenancyref15_Sound.l0 k (i : Int) kind iaid t1 t2 l code = some ((l.drop i).all (inS kind)) := by
  induction d with
  | zero =>
    intro k i hd hi hk
    obtain ⟨k, rfl⟩ : ∃ m, k = m + 1 := ⟨k - 1, by omega⟩
    rw [tenancyref15_Sound.l0, if_neg (by omega), List.drop_of_length_le (by omega)]
    rfl
  | succ d ih =>
    intro k i hd hi hk
    obtain ⟨k, rfl⟩ : ∃ m, k = m + 1 := ⟨k - 1, by omega⟩
    have hlt : i < l.length := by omega
    have hx := ok _ (mem76 l i hlt)
    have hn := ih k (i + 1) (by omega) (by omega) (by omega)
    rw [tenancyref15_Sound.l0, if_pos (by omega), if_pos (by omega), drop76 l i hlt, List.all_cons, w64 (by omega)]
    rw [show ((i : Int) + 1) = ((i + 1 : Nat) : Int) from rfl, hn]
    generalize rd_T58 l (i : Int) = x at hx ⊢
    rw [rstat_eq, Option.bind_some]
    unfold inS
    cases cdB x.f3 with
    | false => rfl
    | true =>
      rw [if_pos rfl, rsd_eq (by omega) _ _ _ hx.1.1 hx.1.2, Option.bind_some]
      cases sd x.f0.f0.f0 x.f0.f0.f1 x.f0.f1 with
      | false => rfl
      | true =>
        rw [if_pos rfl]
        by_cases h4 : kind = 4
        · rw [if_pos h4, h4]
          rfl
        · have hb : (kind == 4) = false := by simpa using h4
          rw [if_neg h4, hb]
          by_cases hb2 : x.f0.f1 = 128
          · rw [if_pos hb2, hb2]
            rfl
          · have : (x.f0.f1 == 128) = false := by simpa using hb2
            rw [if_neg hb2, this]
            rfl
theorem rSound_eq (kind iaid t1 t2 : Int) (l : List S58) (code : Int) (ok : ∀ x ∈ l, okX x) (k : Nat) (hk : 320 ≤ k) : tenancyref15_Sound.f k kind iaid t1 t2 l code = some (sndS kind t1 t2 l code) := by
  obtain ⟨k, rfl⟩ : ∃ m, k = m + 1 := ⟨k - 1, by omega⟩
  have bad : ∀ b, b = true → tenancyref15_Sound.j0 (k + 1) b kind iaid t1 t2 l code = some false := fun b hb => by rw [tenancyref15_Sound.j0, if_pos hb]
  have tl : ((if (l.length : Int) > 8 then tenancyref15_Sound.j0 (k + 1) true kind iaid t1 t2 l code else ((tenancyref15_status.f code).bind fun t297 => tenancyref15_Sound.j0 (k + 1) (!t297) kind iaid t1 t2 l code)) = some (l.all (inS kind) && (decide (l.length ≤ 8) && cdB code))) := by
    by_cases h8 : (l.length : Int) > 8
    · rw [if_pos h8, bad true rfl, decide_eq_false (by omega), Bool.false_and, Bool.and_false]
    · rw [if_neg h8, rstat_eq, Option.bind_some, decide_eq_true (show l.length ≤ 8 by omega), Bool.true_and]
      cases cdB code with
      | false => rw [bad (!false) rfl, Bool.and_false]
      | true =>
        rw [tenancyref15_Sound.j0, if_neg (by decide), Bool.and_true]
        exact rs_go kind iaid t1 t2 l code (by omega) ok l.length k 0 rfl (by omega) (by omega)
  unfold tenancyref15_Sound.f sndS
  unfold kdS
  by_cases h2 : kind < 2
  · rw [if_pos h2, bad true rfl, if_neg (by omega)]
    have : (kind == 2 || kind == 4) = false := by simp; omega
    rw [this, Bool.false_and, Bool.and_false]
  · rw [if_neg h2]
    by_cases h4 : kind > 4
    · rw [if_pos h4, bad true rfl, if_neg (by omega)]
      have : (kind == 2 || kind == 4) = false := by simp; omega
      rw [this, Bool.false_and, Bool.and_false]
    · rw [if_neg h4]
      by_cases h3 : kind = 3
      · rw [if_pos h3, if_pos h3]
        by_cases ha : t1 = 0
        · rw [if_pos ha]
          by_cases hb : t2 = 0
          · rw [if_pos hb, tl, ha, hb]
            rfl
          · have : (t2 == 0) = false := by simpa using hb
            rw [if_neg hb, bad true rfl, this, Bool.and_false, Bool.false_and, Bool.and_false]
        · have : (t1 == 0) = false := by simpa using ha
          rw [if_neg ha, bad true rfl, this, Bool.false_and, Bool.false_and, Bool.and_false]
      · have : (kind == 2 || kind == 4) = true := by simp; omega
        rw [if_neg h3, if_neg h3, tl, this, Bool.true_and]
theorem rstO_eq (c : Int) (hc : -1 ≤ c) (k : Nat) (hk : 12 ≤ k) : tenancyref15_statusOption.f k c = some (B (emL (stZ c))) := by
  unfold tenancyref15_statusOption.f stZ
  by_cases h : c < 0
  · rw [if_pos h, if_pos (by omega)]
    rfl
  · have := stD_len c
    rw [if_neg h, if_neg (by omega), rputStatus_eq c k (by omega), Option.bind_some, roption_eq 13 (by omega) _ (by rw [size_B]; omega) k (by omega), Option.bind_some]
theorem rcode_eq (kind : Int) : tenancyref15_Code.f kind = some (cdO kind) := by
  unfold tenancyref15_Code.f cdO
  by_cases h2 : kind = 2
  · rw [if_pos h2, if_pos h2]
  · rw [if_neg h2, if_neg h2]
    by_cases h3 : kind = 3
    · rw [if_pos h3, if_pos h3]
    · rw [if_neg h3, if_neg h3]
theorem cdB_ge {c : Int} (h : cdB c = true) : -1 ≤ c := (of_decide_eq_true h).1
theorem rp_go (kind iaid t1 t2 : Int) (l : List S58) (code : Int) (hc : -1 ≤ code) (hl : l.length ≤ 8) (ok : ∀ x ∈ l, okX x ∧ -1 ≤ x.f3) (d : Nat) : ∀ (k i : Nat) (acc : List UInt8), l.length - i = d → i ≤ l.length → 300 + d ≤ k → acc.length + 65539 * d ≤ 100000000 →
    tenancyref15_PutIA.l0 k (B acc) (i : Int) kind iaid t1 t2 l code = some (cdO kind, B (acc ++ emL ((l.drop i).map (inO kind) ++ stZ code)), 0) := by
  induction d with
  | zero =>
    intro k i acc hd hi hk ha
    obtain ⟨k, rfl⟩ : ∃ m, k = m + 1 := ⟨k - 1, by omega⟩
    have hsz := stZ_len code
    rw [tenancyref15_PutIA.l0, if_neg (by omega), List.drop_of_length_le (by omega), rstO_eq code hc k (by omega), Option.bind_some, if_pos (by rw [size_B, size_B]; omega), rcode_eq, Option.bind_some, B_append]
    rfl
  | succ d ih =>
    intro k i acc hd hi hk ha
    obtain ⟨k, rfl⟩ : ∃ m, k = m + 1 := ⟨k - 1, by omega⟩
    have hlt : i < l.length := by omega
    have hx := ok _ (mem76 l i hlt)
    rw [Nat.mul_succ] at ha
    have hin : acc.length + 65539 * d + 65539 ≤ 100000000 := by rw [Nat.add_assoc]; exact ha
    clear ha
    have hn := fun a (h : a.length + 65539 * d ≤ 100000000) => ih k (i + 1) a (by omega) (by omega) (by omega) h
    rw [tenancyref15_PutIA.l0, if_pos (by omega), if_pos (by omega), drop76 l i hlt, w64 (by omega)]
    rw [show ((i : Int) + 1) = ((i + 1 : Nat) : Int) from rfl]
    generalize rd_T58 l (i : Int) = x at hx ⊢
    have hdl := inD_len kind x
    have hst := stZ_len x.f3
    have hem := emL_len [inO kind x]
    rw [List.length_singleton] at hem
    have hcat : ∀ a : List UInt8, a ++ emL ([inO kind x]) ++ emL ((l.drop (i + 1)).map (inO kind) ++ stZ code) = a ++ emL ((x :: l.drop (i + 1)).map (inO kind) ++ stZ code) := fun a => by
      rw [List.map_cons, List.cons_append, show inO kind x :: ((l.drop (i + 1)).map (inO kind) ++ stZ code) = [inO kind x] ++ ((l.drop (i + 1)).map (inO kind) ++ stZ code) from rfl, emL_append [inO kind x], List.append_assoc]
    rw [rPut32 (by omega) _ hx.1.2.1.1 hx.1.2.1.2, Option.bind_some, rPut32 (by omega) _ hx.1.2.2.1 hx.1.2.2.2, Option.bind_some, B_append, if_pos (by rw [size_B, size_B, be4_length, be4_length]; omega)]
    by_cases h4 : kind = 4
    · have hD : inD kind x = (((be4 x.f1 ++ be4 x.f2) ++ [b8 x.f0.f1]) ++ (be8 x.f0.f0.f0 ++ be8 x.f0.f0.f1)) ++ emL (stZ x.f3) := by unfold inD; rw [if_pos h4]; simp only [List.append_assoc]
      have hO : inO kind x = ⟨26, B (inD kind x)⟩ := by unfold inO; rw [if_pos h4]
      rw [if_pos h4, Option.bind_some, nums1, if_pos (by rw [size_B, size_B]; simp only [List.length_append, be4_length, List.length_cons, List.length_nil]; omega), rputAddr (by omega) _ _ hx.1.1.1 hx.1.1.2, Option.bind_some, B_append, if_pos (by rw [size_B, size_B]; simp only [List.length_append, be4_length, be8_length, List.length_cons, List.length_nil]; omega), rstO_eq _ hx.2 k (by omega), Option.bind_some, B_append, if_pos (by rw [size_B, size_B]; simp only [List.length_append, be4_length, be8_length, List.length_cons, List.length_nil]; omega), B_append, ← hD, roption_eq 26 (by omega) _ (by rw [size_B]; omega) k (by omega), Option.bind_some, ← hO, if_pos (by rw [size_B, size_B]; omega), B_append, hn _ (by rw [List.length_append]; omega), hcat]
    · have hD : inD kind x = ((be8 x.f0.f0.f0 ++ be8 x.f0.f0.f1) ++ (be4 x.f1 ++ be4 x.f2)) ++ emL (stZ x.f3) := by unfold inD; rw [if_neg h4]; simp only [List.append_assoc]
      have hO : inO kind x = ⟨5, B (inD kind x)⟩ := by unfold inO; rw [if_neg h4]
      rw [if_neg h4, rputAddr (by omega) _ _ hx.1.1.1 hx.1.1.2, Option.bind_some, if_pos (by rw [size_B, size_B]; simp only [List.length_append, be4_length, be8_length]; omega), B_append, rstO_eq _ hx.2 k (by omega), Option.bind_some, if_pos (by rw [size_B, size_B]; simp only [List.length_append, be4_length, be8_length]; omega), B_append, ← hD, roption_eq 5 (by omega) _ (by rw [size_B]; omega) k (by omega), Option.bind_some, ← hO, if_pos (by rw [size_B, size_B]; omega), B_append, hn _ (by rw [List.length_append]; omega), hcat]
theorem rPut_eq (kind iaid t1 t2 : Int) (l : List S58) (code : Int) (h : ∀ x ∈ l, okX x) (hi : ok4 iaid) (h1 : ok4 t1) (h2 : ok4 t2) (k : Nat) (hk : 400 ≤ k) :
    tenancyref15_PutIA.f k kind iaid t1 t2 l code = some (if sndS kind t1 t2 l code = true then (cdO kind, B (hdP kind iaid t1 t2 ++ emL (iaZ kind l code)), 0) else (0, NIL, 130)) := by
  obtain ⟨k, rfl⟩ : ∃ m, k = m + 1 := ⟨k - 1, by omega⟩
  unfold tenancyref15_PutIA.f
  rw [rSound_eq kind iaid t1 t2 l code h (k + 1) (by omega), Option.bind_some]
  cases hs : sndS kind t1 t2 l code with
  | false => rfl
  | true =>
    have hs2 := hs
    unfold sndS at hs2
    simp only [Bool.and_eq_true, decide_eq_true_eq, List.all_eq_true] at hs2
    obtain ⟨ha, _, hl, hc⟩ := hs2
    have ok : ∀ x ∈ l, okX x ∧ -1 ≤ x.f3 := fun x hx => ⟨h x hx, by
      have := ha x hx
      unfold inS at this
      rw [Bool.and_eq_true] at this
      exact cdB_ge this.1⟩
    have go := fun (acc : List UInt8) (hh : acc.length ≤ 100) => rp_go kind iaid t1 t2 l code (cdB_ge hc) hl ok l.length k 0 acc rfl (Nat.zero_le _) (by omega) (Nat.le_trans (Nat.add_le_add hh (Nat.mul_le_mul_left 65539 hl)) (by decide))
    rw [if_pos rfl, if_pos rfl, rPut32 (by omega) _ hi.1 hi.2, Option.bind_some]
    unfold hdP
    by_cases h3 : kind = 3
    · rw [if_pos h3, if_pos h3, tenancyref15_PutIA.j0]
      exact go (be4 iaid) (by rw [be4_length]; omega)
    · rw [if_neg h3, if_neg h3, rPut32 (by omega) _ h1.1 h1.2, Option.bind_some, if_pos (by rw [size_B, size_B, be4_length, be4_length]; omega), rPut32 (by omega) _ h2.1 h2.2, Option.bind_some, B_append, if_pos (by rw [size_B, size_B, List.length_append, be4_length, be4_length, be4_length]; omega), B_append, tenancyref15_PutIA.j0]
      have := go ((be4 iaid ++ be4 t1) ++ be4 t2) (by simp only [List.length_append, be4_length]; omega)
      rw [List.append_assoc (be4 iaid)] at this
      rw [List.append_assoc (be4 iaid)]
      exact this
end Go.Proofs.Ythadapbekmmgpaa.O6


set_option linter.unusedVariables false
set_option linter.unusedSimpArgs false
namespace Go.Proofs.Ythadapbekmmgpaa.O6
open Go Go.RowKit Go.Proofs.YthadapbekmmgpaaW.PrintWords Go.Proofs.YthadapbekmmgpaaW.PrintLast Go.Proofs.YthadapbekmmgpaaW.PrintMore Go.Proofs.Ythadapbekmmgpaa.X Go.Proofs.Ythadapbekmmgpaa.Oct
def ints (l : List UInt8) : List Int := l.map fun c => (c.toNat : Int)
theorem ints_append (a b : List UInt8) : ints (a ++ b) = ints a ++ ints b := by simp [ints]
theorem ints_len (a : List UInt8) : (ints a).length = a.length := by simp [ints]
theorem ints_str (a : List UInt8) : strOfNums (ints a) = B a := by
  rw [strOfNums_B _ (by
    intro x hx
    obtain ⟨c, _, rfl⟩ := List.mem_map.1 hx
    have := c.toNat_lt
    omega)]
  congr 1
  unfold ints
  rw [List.map_map]
  conv => rhs; rw [← List.map_id a]
  apply List.map_congr_left
  intro c _
  exact b8_byte c
theorem remit_go (zs : List S42) (hz : ∀ x ∈ zs, okF x) (hl : zs.length ≤ 128) (d : Nat) : ∀ (k i : Nat) (xs : List UInt8), zs.length - i = d → i ≤ zs.length → d + 20 ≤ k → xs.length + 65539 * d ≤ 100000000 →
    tenancyref15_Emit.l0 k zs (ints xs) (i : Int) = some (if emOk (zs.drop i) = true then (B (xs ++ emL (zs.drop i)), 0) else (NIL, 130)) := by
  induction d with
  | zero =>
    intro k i xs hd hi hk hx
    obtain ⟨k, rfl⟩ : ∃ m, k = m + 1 := ⟨k - 1, by omega⟩
    rw [tenancyref15_Emit.l0, if_neg (by omega), List.drop_of_length_le (by omega), ints_str]
    show _ = some (B (xs ++ []), 0)
    rw [List.append_nil]
  | succ d ih =>
    intro k i xs hd hi hk hx
    obtain ⟨k, rfl⟩ : ∃ m, k = m + 1 := ⟨k - 1, by omega⟩
    have hlt : i < zs.length := by omega
    have hdr := drop_at zs i hlt
    have hm : rd_T42 zs (i : Int) ∈ zs := List.mem_of_mem_drop (hdr ▸ List.mem_cons_self : rd_T42 zs (i : Int) ∈ zs.drop i)
    have hF := hz _ hm
    rw [tenancyref15_Emit.l0, if_pos (by omega), if_pos (by omega), hdr]
    generalize rd_T42 zs (i : Int) = x at hF ⊢
    rw [rrun (by omega) x.f1, Option.bind_some]
    dsimp only
    cases hr : runOk (L x.f1) with
    | false =>
      have he : emOk (x :: zs.drop (i + 1)) = false := by unfold emOk; rw [List.all_cons, hr]; rfl
      rw [if_neg (by decide), he]
      rfl
    | true =>
      have he : emOk (x :: zs.drop (i + 1)) = emOk (zs.drop (i + 1)) := by unfold emOk; rw [List.all_cons, hr, Bool.true_and]
      have hb := runL_len (L x.f1)
      rw [if_pos rfl, rPut16 (by omega) x.f0 hF.1 hF.2, Option.bind_some, if_pos (by rw [ints_len, size_B, be2_length]; omega), Option.bind_some, bytesOf_L, bytesOf_L, L_B, L_B]
      change (if (ints xs ++ ints (be2 x.f0)).length + (B (runL (L x.f1))).size < 140737488355328 then tenancyref15_Emit.l0 k zs ((ints xs ++ ints (be2 x.f0)) ++ ints (runL (L x.f1))) (wrap64 ((i : Int) + 1)) else none) = _
      rw [if_pos (by rw [List.length_append, ints_len, ints_len, size_B, be2_length]; omega), ← ints_append, ← ints_append, w64 (by omega)]
      have := ih k (i + 1) (xs ++ be2 x.f0 ++ runL (L x.f1)) (by omega) (by omega) (by omega) (by rw [List.length_append, List.length_append, be2_length]; omega)
      rw [show ((i : Int) + 1) = ((i + 1 : Nat) : Int) from rfl, this, he, emL]
      simp only [List.append_assoc]
theorem remit_eq (zs : List S42) (hz : ∀ x ∈ zs, okF x) (hl : zs.length ≤ 128) (k : Nat) (hk : 200 ≤ k) : tenancyref15_Emit.f k zs = some (if emOk zs = true then (B (emL zs), 0) else (NIL, 130)) := by
  unfold tenancyref15_Emit.f
  rw [if_neg (by omega)]
  have := remit_go zs hz hl zs.length k 0 [] (by omega) (by omega) (by omega) (by simp; omega)
  rw [List.drop_zero] at this
  exact this
end Go.Proofs.Ythadapbekmmgpaa.O6


set_option linter.unusedVariables false
set_option linter.unusedSimpArgs false
namespace Go.Proofs.Ythadapbekmmgpaa.O6
open Go Go.RowKit Go.Proofs.YthadapbekmmgpaaW.PrintWords Go.Proofs.YthadapbekmmgpaaW.PrintLast Go.Proofs.YthadapbekmmgpaaW.PrintMore Go.Proofs.Ythadapbekmmgpaa.X Go.Proofs.Ythadapbekmmgpaa.Oct
theorem drop51 (zs : List S51) (i : Nat) (h : i < zs.length) : zs.drop i = rd_T51 zs (i : Int) :: zs.drop (i + 1) := by
  rw [List.drop_eq_getElem_cons h]
  simp [rd_T51, List.getD_eq_getElem?_getD, List.getElem?_eq_getElem h]
theorem ropt_go (m : Ms) (hF : ∀ a ∈ m.ias, iaF a) (hi8 : m.ias.length ≤ 8) (ho : m.opts.length ≤ 5864062014650) (d : Nat) : ∀ (k i : Nat) (acc : List S42), m.ias.length - i = d → i ≤ m.ias.length → d + 500 ≤ k → acc.length + d ≤ 30 →
    tenancyref16_options.l0 k acc (i : Int) m.ty m.xid m.cl m.sv m.ias m.code m.rap m.acc m.again m.opts = some (if (m.ias.drop i).all iaOk = true then (acc ++ ((m.ias.drop i).map iaO ++ m.opts), true) else ([], false)) := by
  induction d with
  | zero =>
    intro k i acc hd hi hk ha
    obtain ⟨k, rfl⟩ : ∃ m, k = m + 1 := ⟨k - 1, by omega⟩
    rw [tenancyref16_options.l0, if_neg (by omega), if_pos (by omega), List.drop_of_length_le (by omega), List.all_nil, if_pos rfl, List.map_nil, List.nil_append]
  | succ d ih =>
    intro k i acc hd hi hk ha
    obtain ⟨k, rfl⟩ : ∃ m, k = m + 1 := ⟨k - 1, by omega⟩
    have hlt : i < m.ias.length := by omega
    have hdr := drop51 m.ias i hlt
    have hx := hF _ (List.mem_of_mem_drop (hdr ▸ List.mem_cons_self : rd_T51 m.ias (i : Int) ∈ m.ias.drop i))
    rw [tenancyref16_options.l0, if_pos (by omega), if_pos (by omega), hdr]
    generalize rd_T51 m.ias (i : Int) = x at hx ⊢
    rw [rPut_eq x.f0 x.f1 x.f2 x.f3 x.f4 x.f5 hx.1 hx.2.1 hx.2.2.1 hx.2.2.2 k (by omega), Option.bind_some, List.all_cons]
    cases hs : iaOk x with
    | true =>
      rw [if_pos (show sndS x.f0 x.f2 x.f3 x.f4 x.f5 = true from hs), if_pos rfl, if_pos (by omega), w64 (by omega), Bool.true_and, List.map_cons]
      have := ih k (i + 1) (acc ++ [iaO x]) (by omega) (by omega) (by omega) (by rw [List.length_append, List.length_singleton]; omega)
      rw [show ((i : Int) + 1) = ((i + 1 : Nat) : Int) from rfl]
      refine this.trans ?_
      by_cases hl : (m.ias.drop (i + 1)).all iaOk = true
      · rw [if_pos hl, if_pos hl, List.append_assoc]
        rfl
      · rw [if_neg hl, if_neg hl]
    | false =>
      rw [if_neg (show ¬ sndS x.f0 x.f2 x.f3 x.f4 x.f5 = true from fun e => by rw [show sndS x.f0 x.f2 x.f3 x.f4 x.f5 = iaOk x from rfl, hs] at e; cases e), Bool.false_and, if_neg (by decide), if_neg (by decide)]
theorem opZ_no (acc : List S42) (c : Int) (d : ByteArray) : acc ++ opZ false c d = acc := List.append_nil acc
theorem isE (s : ByteArray) : (s.toList = ([] : List UInt8)) ↔ (!s.toList.isEmpty) = false := by cases s.toList <;> simp
theorem roptions_f (m : Ms) (hF : ∀ a ∈ m.ias, iaF a) (hi8 : m.ias.length ≤ 8) (ho : m.opts.length ≤ 5864062014650) (hc : -1 ≤ m.code) (k : Nat) (hk : 600 ≤ k) :
    tenancyref16_options.f k m.ty m.xid m.cl m.sv m.ias m.code m.rap m.acc m.again m.opts = some (if m.ias.all iaOk = true then (allZ m, true) else ([], false)) := by
  obtain ⟨k, rfl⟩ : ∃ m, k = m + 6 := ⟨k - 6, by omega⟩
  have e5 : ∀ acc : List S42, acc.length ≤ 6 → tenancyref16_options.j5 (k + 1) acc m.ty m.xid m.cl m.sv m.ias m.code m.rap m.acc m.again m.opts = some (if m.ias.all iaOk = true then (acc ++ (m.ias.map iaO ++ m.opts), true) else ([], false)) := fun acc ha => by
    rw [tenancyref16_options.j5]
    exact ropt_go m hF hi8 ho m.ias.length k 0 acc (by omega) (by omega) (by omega) (by omega)
  have e4 : ∀ acc : List S42, acc.length ≤ 5 → tenancyref16_options.j4 (k + 2) acc m.ty m.xid m.cl m.sv m.ias m.code m.rap m.acc m.again m.opts = some (if m.ias.all iaOk = true then ((acc ++ opZ (m.again != 0) 19 (B [b8 m.again])) ++ (m.ias.map iaO ++ m.opts), true) else ([], false)) := fun acc ha => by
    rw [tenancyref16_options.j4]
    by_cases h : m.again = 0
    · rw [if_pos h, e5 _ (by omega), (by simpa using h : (m.again != 0) = false)]
      rw [opZ_no]
    · rw [if_neg h, if_pos (by omega), e5 _ (by rw [List.length_append, List.length_singleton]; omega), (by simpa using h : (m.again != 0) = true), nums1]
      rfl
  have e3 : ∀ acc : List S42, acc.length ≤ 4 → tenancyref16_options.j3 (k + 3) acc m.ty m.xid m.cl m.sv m.ias m.code m.rap m.acc m.again m.opts = some (if m.ias.all iaOk = true then (((acc ++ opZ m.acc 20 NIL) ++ opZ (m.again != 0) 19 (B [b8 m.again])) ++ (m.ias.map iaO ++ m.opts), true) else ([], false)) := fun acc ha => by
    rw [tenancyref16_options.j3]
    cases h : m.acc
    · rw [if_neg (by decide), ← h, e4 _ (by omega), h]
      rw [opZ_no]
    · rw [if_pos rfl, if_pos (by omega), ← h, e4 _ (by rw [List.length_append, List.length_singleton]; omega), h]
      rfl
  have e2 : ∀ acc : List S42, acc.length ≤ 3 → tenancyref16_options.j2 (k + 4) acc m.ty m.xid m.cl m.sv m.ias m.code m.rap m.acc m.again m.opts = some (if m.ias.all iaOk = true then ((((acc ++ opZ m.rap 14 NIL) ++ opZ m.acc 20 NIL) ++ opZ (m.again != 0) 19 (B [b8 m.again])) ++ (m.ias.map iaO ++ m.opts), true) else ([], false)) := fun acc ha => by
    rw [tenancyref16_options.j2]
    cases h : m.rap
    · rw [if_neg (by decide), ← h, e3 _ (by omega), h]
      rw [opZ_no]
    · rw [if_pos rfl, if_pos (by omega), ← h, e3 _ (by rw [List.length_append, List.length_singleton]; omega), h]
      rfl
  have hcT : m.code ≠ -1 → (m.code != -1) = true := fun h => by simpa using h
  have hcN : m.code = -1 → (m.code != -1) = false := fun h => by simpa using h
  have e1 : ∀ acc : List S42, acc.length ≤ 2 → tenancyref16_options.j1 (k + 5) acc m.ty m.xid m.cl m.sv m.ias m.code m.rap m.acc m.again m.opts = some (if m.ias.all iaOk = true then (((((acc ++ opZ (m.code != -1) 13 (B (stD m.code))) ++ opZ m.rap 14 NIL) ++ opZ m.acc 20 NIL) ++ opZ (m.again != 0) 19 (B [b8 m.again])) ++ (m.ias.map iaO ++ m.opts), true) else ([], false)) := fun acc ha => by
    rw [tenancyref16_options.j1]
    by_cases h : m.code ≥ 0
    · rw [if_pos h, rputStatus_eq _ _ (by omega), Option.bind_some, if_pos (by omega), e2 _ (by rw [List.length_append, List.length_singleton]; omega), hcT (by omega)]
      rfl
    · rw [if_neg h, e2 _ (by omega), hcN (by omega)]
      rw [opZ_no]
  have e0 : ∀ acc : List S42, acc.length ≤ 1 → tenancyref16_options.j0 (k + 6) acc m.ty m.xid m.cl m.sv m.ias m.code m.rap m.acc m.again m.opts = some (if m.ias.all iaOk = true then ((((((acc ++ opZ (!m.sv.toList.isEmpty) 2 m.sv) ++ opZ (m.code != -1) 13 (B (stD m.code))) ++ opZ m.rap 14 NIL) ++ opZ m.acc 20 NIL) ++ opZ (m.again != 0) 19 (B [b8 m.again])) ++ (m.ias.map iaO ++ m.opts), true) else ([], false)) := fun acc ha => by
    rw [tenancyref16_options.j0]
    by_cases h : m.sv.toList = ([] : List UInt8)
    · rw [if_pos h, e1 _ (by omega), (isE _).1 h]
      rw [opZ_no]
    · rw [if_neg h, if_pos (by omega), e1 _ (by rw [List.length_append, List.length_singleton]; omega), show (!m.sv.toList.isEmpty) = true from Bool.of_not_eq_false (fun q => h ((isE _).2 q))]
      rfl
  unfold tenancyref16_options.f
  rw [Option.bind_some]
  have fin : allZ m = (((((opZ (!m.cl.toList.isEmpty) 1 m.cl ++ opZ (!m.sv.toList.isEmpty) 2 m.sv) ++ opZ (m.code != -1) 13 (B (stD m.code))) ++ opZ m.rap 14 NIL) ++ opZ m.acc 20 NIL) ++ opZ (m.again != 0) 19 (B [b8 m.again])) ++ (m.ias.map iaO ++ m.opts) := by
    unfold allZ fdZ
    simp only [List.append_assoc]
  rw [fin]
  by_cases h : m.cl.toList = ([] : List UInt8)
  · rw [if_pos h, e0 _ (by decide), (isE m.cl).1 h]
    rfl
  · rw [if_neg h, if_pos (by decide), e0 ([] ++ [(⟨1, m.cl⟩ : S42)]) (by simp), show (!m.cl.toList.isEmpty) = true from Bool.of_not_eq_false (fun q => h ((isE _).2 q))]
    rfl
theorem rown_eq (c : Int) : tenancyref16_own.f c = some (ownB c) := by
  unfold tenancyref16_own.f ownB
  simp only [List.contains_cons, List.contains_nil, Bool.or_false]
  by_cases h1 : c = 1
  · rw [if_pos h1, h1]; rfl
  rw [if_neg h1, (by simpa using h1 : (c == 1) = false)]
  by_cases h2 : c = 2
  · rw [if_pos h2, h2]; rfl
  rw [if_neg h2, (by simpa using h2 : (c == 2) = false)]
  by_cases h3 : c = 3
  · rw [if_pos h3, h3]; rfl
  rw [if_neg h3, (by simpa using h3 : (c == 3) = false)]
  by_cases h4 : c = 4
  · rw [if_pos h4, h4]; rfl
  rw [if_neg h4, (by simpa using h4 : (c == 4) = false)]
  by_cases h5 : c = 13
  · rw [if_pos h5, h5]; rfl
  rw [if_neg h5, (by simpa using h5 : (c == 13) = false)]
  by_cases h6 : c = 14
  · rw [if_pos h6, h6]; rfl
  rw [if_neg h6, (by simpa using h6 : (c == 14) = false)]
  by_cases h7 : c = 19
  · rw [if_pos h7, h7]; rfl
  rw [if_neg h7, (by simpa using h7 : (c == 19) = false)]
  by_cases h8 : c = 20
  · rw [if_pos h8, h8]; rfl
  rw [if_neg h8, (by simpa using h8 : (c == 20) = false)]
  by_cases h9 : c = 25
  · rw [if_pos h9, h9]; rfl
  rw [if_neg h9, (by simpa using h9 : (c == 25) = false)]
  rfl
theorem rsound_go (m : Ms) (hF : ∀ a ∈ m.ias, iaF a) (ho : m.opts.length ≤ 128) (hi8 : m.ias.length ≤ 8) (hc : -1 ≤ m.code) (d : Nat) : ∀ (k i : Nat), m.opts.length - i = d → i ≤ m.opts.length → d + 700 ≤ k →
    tenancyref16_Sound.l0 k (i : Int) m.ty m.xid m.cl m.sv m.ias m.code m.rap m.acc m.again m.opts = some ((m.opts.drop i).all opOk && tlS m) := by
  induction d with
  | zero =>
    intro k i hd hi hk
    obtain ⟨k, rfl⟩ : ∃ m, k = m + 1 := ⟨k - 1, by omega⟩
    rw [tenancyref16_Sound.l0, if_neg (by omega), List.drop_of_length_le (by omega), roptions_f m hF hi8 (by omega) hc k (by omega), Option.bind_some, List.all_nil, Bool.true_and]
    unfold tlS
    cases m.ias.all iaOk with
    | true => rw [if_pos rfl, if_pos rfl, Bool.true_and]; congr 1; exact decide_eq_decide.2 (by show ((allZ m).length : Int) ≤ 128 ↔ _; omega)
    | false => rfl
  | succ d ih =>
    intro k i hd hi hk
    obtain ⟨k, rfl⟩ : ∃ m, k = m + 1 := ⟨k - 1, by omega⟩
    have hlt : i < m.opts.length := by omega
    rw [tenancyref16_Sound.l0, if_pos (by omega), if_pos (by omega), rown_eq, Option.bind_some, drop_at _ i hlt, List.all_cons]
    unfold opOk
    cases hw : ownB (rd_T42 m.opts (i : Int)).f0 with
    | true => rw [if_pos rfl]; rfl
    | false =>
      rw [if_neg (by decide)]
      by_cases hz : ((rd_T42 m.opts (i : Int)).f1.size : Int) > 65535
      · rw [if_pos hz, decide_eq_false (by omega)]
        rfl
      · rw [if_neg hz, decide_eq_true (by omega), w64 (by omega)]
        exact ih k (i + 1) (by omega) (by omega) (by omega)
theorem rj0_bad (m : Ms) (k : Nat) (hk : 1 ≤ k) : tenancyref16_Sound.j0 k true m.ty m.xid m.cl m.sv m.ias m.code m.rap m.acc m.again m.opts = some false := by
  obtain ⟨k, rfl⟩ : ∃ m, k = m + 1 := ⟨k - 1, by omega⟩
  rw [tenancyref16_Sound.j0, if_pos rfl]
theorem rsound16_eq (m : Ms) (hF : ∀ a ∈ m.ias, iaF a) (k : Nat) (hk : 1000 ≤ k) :
    tenancyref16_Sound.f k m.ty m.xid m.cl m.sv m.ias m.code m.rap m.acc m.again m.opts = some (sdM m) := by
  obtain ⟨k, rfl⟩ : ∃ m, k = m + 3 := ⟨k - 3, by omega⟩
  have hbad : ¬ (1 ≤ m.ty ∧ m.ty ≤ 11 ∧ m.xid < 16777216 ∧ m.cl.size ≤ 130 ∧ m.sv.size ≤ 130 ∧ m.ias.length ≤ 8 ∧ -1 ≤ m.code ∧ m.code ≤ 65535) → some false = some (sdM m) := fun h => by
    unfold sdM hdS
    rw [decide_eq_false h]
    rfl
  unfold tenancyref16_Sound.f
  by_cases h1 : m.ty < 1
  · rw [if_pos h1, rj0_bad m _ (by omega)]; exact hbad (by omega)
  rw [if_neg h1]
  by_cases h2 : m.ty > 11
  · rw [if_pos h2, rj0_bad m _ (by omega)]; exact hbad (by omega)
  rw [if_neg h2]
  by_cases h3 : m.xid ≥ 16777216
  · rw [if_pos h3, rj0_bad m _ (by omega)]; exact hbad (by omega)
  rw [if_neg h3]
  by_cases h4 : (m.cl.size : Int) > 130
  · rw [if_pos h4, rj0_bad m _ (by omega)]; exact hbad (by omega)
  rw [if_neg h4]
  by_cases h4' : (m.sv.size : Int) > 130
  · rw [if_pos h4', rj0_bad m _ (by omega)]; exact hbad (by omega)
  rw [if_neg h4']
  by_cases h5 : (m.ias.length : Int) > 8
  · rw [if_pos h5, rj0_bad m _ (by omega)]; exact hbad (by omega)
  rw [if_neg h5]
  by_cases h6 : m.code < -1
  · rw [if_pos h6, rj0_bad m _ (by omega)]; exact hbad (by omega)
  rw [if_neg h6, tenancyref16_Sound.j0]
  by_cases h7 : m.code > 65535
  · rw [if_pos (decide_eq_true h7)]; exact hbad (by omega)
  rw [if_neg (by simpa using h7)]
  have hh : hdS m = (m.again == 0 || w6again m.again) := by
    unfold hdS
    rw [decide_eq_true (by omega)]
    exact Bool.true_and _
  have hj : tenancyref16_Sound.j1 (k + 2) (decide ((m.opts.length : Int) > 128)) m.ty m.xid m.cl m.sv m.ias m.code m.rap m.acc m.again m.opts = some (m.opts.all opOk && tlS m) := by
    rw [tenancyref16_Sound.j1]
    by_cases h : (m.opts.length : Int) > 128
    · rw [if_pos (decide_eq_true h)]
      unfold tlS
      rw [decide_eq_false (by rw [allZ_len]; omega), Bool.and_false, Bool.and_false]
    · rw [if_neg (by simpa using h)]
      exact rsound_go m hF (by omega) (by omega) (by omega) m.opts.length (k + 1) 0 (by omega) (by omega) (by omega)
  have hj2 : tenancyref16_Sound.j1 (k + 2) true m.ty m.xid m.cl m.sv m.ias m.code m.rap m.acc m.again m.opts = some false := by rw [tenancyref16_Sound.j1, if_pos rfl]
  unfold sdM
  rw [hj, hj2, hh]
  unfold w6again
  by_cases h8 : m.again = 0
  · rw [if_pos h8, beq_iff_eq.2 h8, Bool.true_or, Bool.true_and]
  rw [if_neg h8, (by simpa using h8 : (m.again == 0) = false), Bool.false_or]
  by_cases h9 : m.again = 5
  · rw [if_pos h9, beq_iff_eq.2 h9, Bool.true_or, Bool.true_or, Bool.true_and]
  rw [if_neg h9, (by simpa using h9 : (m.again == 5) = false), Bool.false_or]
  by_cases h10 : m.again = 6
  · rw [if_pos h10, beq_iff_eq.2 h10, Bool.true_or, Bool.true_and]
  rw [if_neg h10, (by simpa using h10 : (m.again == 6) = false), Bool.false_or]
  by_cases h11 : m.again = 11
  · rw [if_pos h11, beq_iff_eq.2 h11, Bool.true_and]
  rw [if_neg h11, (by simpa using h11 : (m.again == 11) = false)]
  rfl
theorem emL_one (x : S42) (zs : List S42) (h : emOk (x :: zs) = true) : (emL (x :: zs)).length = 4 + x.f1.size + (emL zs).length := by
  rw [show x :: zs = [x] ++ zs from rfl, emL_append, List.length_append, em1 x (of_decide_eq_true (emOk_cons h).1), ← size_L]
theorem renc_go (m : Ms) (hm : msF m) (hs : SdM m) (d : Nat) : ∀ (k i : Nat) (n : Nat), (allZ m).length - i = d → i ≤ (allZ m).length → d + 300 ≤ k → n + (emL ((allZ m).drop i)).length = 4 + (emL (allZ m)).length →
    tenancyref16_Encode.l0 k (allZ m) (n : Int) (i : Int) m.ty m.xid m.cl m.sv m.ias m.code m.rap m.acc m.again m.opts = some (if 4 + (emL (allZ m)).length ≤ 65507 then (B (hd4 m ++ emL (allZ m)), 0) else (NIL, 6)) := by
  have hlen := hs.all
  have hok := allZ_ok hs
  have hF := allZ_F hm
  have hb := emL_len (allZ m)
  induction d with
  | zero =>
    intro k i n hd hi hk hn
    obtain ⟨k, rfl⟩ : ∃ m, k = m + 1 := ⟨k - 1, by omega⟩
    rw [List.drop_of_length_le (by omega)] at hn
    have hn' : n = 4 + (emL (allZ m)).length := hn
    rw [tenancyref16_Encode.l0, if_neg (by omega), hn']
    by_cases h : 4 + (emL (allZ m)).length ≤ 65507
    · have ht := hs.ty
      have hx0 := hm.2.2.1
      have hx1 := hs.xid
      have e : strOfNums [m.ty % 256, m.xid / 65536 % 256, m.xid / 256 % 256, m.xid % 256] = B (hd4 m) := by
        rw [strOfNums_B _ (fun x hx => by simp only [List.mem_cons, List.not_mem_nil, or_false] at hx; rcases hx with rfl | rfl | rfl | rfl <;> omega)]
        unfold hd4 be4
        simp only [List.map_cons, List.map_nil, b8_mod]
        have q1 : (m.ty * 16777216 + m.xid) / 16777216 = m.ty := by omega
        have q2 : b8 ((m.ty * 16777216 + m.xid) / 65536) = b8 (m.xid / 65536) := by unfold b8; congr 2; omega
        have q3 : b8 ((m.ty * 16777216 + m.xid) / 256) = b8 (m.xid / 256) := by unfold b8; congr 2; omega
        have q4 : b8 (m.ty * 16777216 + m.xid) = b8 m.xid := by unfold b8; congr 2; omega
        rw [q1, q2, q3, q4]
      rw [if_neg (by omega), if_pos h, remit_eq _ hF hlen k (by omega), if_pos hok, Option.bind_some, Option.bind_some, e, if_pos (by rw [size_B, size_B]; unfold hd4; rw [be4_length]; omega), B_append]
    · rw [if_pos (by omega), if_neg h]
  | succ d ih =>
    intro k i n hd hi hk hn
    obtain ⟨k, rfl⟩ : ∃ m, k = m + 1 := ⟨k - 1, by omega⟩
    have hlt : i < (allZ m).length := by omega
    have hdr := drop_at _ i hlt
    have hsub : emOk ((allZ m).drop i) = true := by
      unfold emOk at hok ⊢
      rw [List.all_eq_true] at hok ⊢
      exact fun x hx => hok x (List.mem_of_mem_drop hx)
    rw [hdr] at hn hsub
    rw [emL_one _ _ hsub] at hn
    rw [tenancyref16_Encode.l0, if_pos (by omega), if_pos (by omega), w64 (n := (n : Int) + 4) (by omega), w64 (by omega), w64 (by omega)]
    have := ih k (i + 1) (n + 4 + (rd_T42 (allZ m) (i : Int)).f1.size) (by omega) (by omega) (by omega) (by omega)
    exact this
theorem rencode_eq (m : Ms) (hm : msF m) (k : Nat) (hk : 1000 ≤ k) :
    tenancyref16_Encode.f k m.ty m.xid m.cl m.sv m.ias m.code m.rap m.acc m.again m.opts = some (enM m) := by
  unfold tenancyref16_Encode.f enM
  rw [rsound16_eq m hm.1 k (by omega), Option.bind_some]
  by_cases h : sdM m = true
  · have hs := (sdM_iff m).1 h
    have h2 := hs.all
    rw [if_pos h, if_pos h, roptions_f m hm.1 hs.ias hm.2.2.2 hs.code.1 k (by omega), if_pos hs.iaOk, Option.bind_some]
    exact renc_go m hm hs (allZ m).length k 0 4 (by omega) (by omega) (by omega) (by rw [List.drop_zero])
  · rw [if_neg h, if_neg h]
end Go.Proofs.Ythadapbekmmgpaa.O6


set_option linter.unusedVariables false
namespace Go.Proofs.Ythadapbekmmgpaa.O6
open Go Go.RowKit Go.Proofs.YthadapbekmmgpaaW.PrintWords Go.Proofs.YthadapbekmmgpaaW.PrintLast Go.Proofs.YthadapbekmmgpaaW.PrintMore Go.Proofs.Ythadapbekmmgpaa.X Go.Proofs.Ythadapbekmmgpaa.Oct
def mOf (x : S26) : Ms := ⟨x.f0, x.f1, x.f2, x.f3, x.f4, x.f5, x.f6, x.f7, x.f8, x.f9⟩
theorem iaF_wf {a : S51} (h : wf51 a) : iaF a := ⟨fun y hy => okX_wf (h.2.2.2.2.1.2 y hy), wf_u32 h.2.1, wf_u32 h.2.2.1, wf_u32 h.2.2.2.1⟩
theorem okF_wf {o : S42} (h : wf42 o) : okF o := wf_u16 h.1
theorem msF_wf {x : S26} (h : wf26 x) : msF (mOf x) := by
  obtain ⟨h0, h1, h2, h3, ⟨h4, h4'⟩, h5, h6, h7, h8, ⟨h9, h9'⟩⟩ := h
  refine ⟨fun a ha => iaF_wf (h4' a ha), fun o ho => okF_wf (h9' o ho), wf_u32 h1, ?_⟩
  show x.f9.length ≤ _
  omega
end Go.Proofs.Ythadapbekmmgpaa.O6


set_option linter.unusedVariables false
namespace Go.Proofs.Ythadapbekmmgpaa.Pure
open Go Go.RowKit Go.Proofs.YthadapbekmmgpaaW.PrintWords Go.Proofs.YthadapbekmmgpaaW.PrintLast Go.Proofs.YthadapbekmmgpaaW.PrintMore Go.Proofs.Ythadapbekmmgpaa.X Go.Proofs.Ythadapbekmmgpaa.Oct Go.Proofs.Ythadapbekmmgpaa.O6
theorem Wire6Encodes (x : S26) (hx : wf26 x) (Ai : Option Addr) (ci : Nat) (Ao : Option Addr) (co : Nat) (W : World) (hr4 : Kd.C k51 W Ai x.f4.length x.f4) (hc4 : x.f4.length ≤ ci) (hr9 : Kd.C k42 W Ao x.f9.length x.f9) (hc9 : x.f9.length ≤ co) :
    Calls Try.prog 3 #[.agg #[.int .i64 x.f0, .int .u32 x.f1, .string x.f2, .string x.f3, .slice Ai x.f4.length ci, .int .i64 x.f5, .bool x.f6, .bool x.f7, .int .i64 x.f8, .slice Ao x.f9.length co]] W fun e w' => e = .returned (.bool true) ∧ Below W.heap.size W w' := by
  have hm := msF_wf hx
  exact w6encodes ((mOf x).opts.length + 1000) (mOf x) Ai Ao ci co W hr4 hc4 hr9 hc9 (enM (mOf x)).1 (enM (mOf x)).2 (sdM (mOf x)) (encode_eq (mOf x) hm _ (by omega)) (rencode_eq (mOf x) hm _ (by omega)) (sound_eq (mOf x) hm.1 hm.2.2.2 _ (by omega)) (rsound16_eq (mOf x) hm.1 _ (by omega))
end Go.Proofs.Ythadapbekmmgpaa.Pure
