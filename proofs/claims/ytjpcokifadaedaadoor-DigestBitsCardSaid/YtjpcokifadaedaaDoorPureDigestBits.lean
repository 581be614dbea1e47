/- The plain side of DigestBits. No condition. Own text. -/
import Derived.Test.YtjpcokifadaedaaDoorXCrcL
set_option linter.unusedVariables false
namespace Go.Proofs.YtjpcokifadaedaaDoor.X.Pure
open Go Go.RowKit Go.Proofs.YtjpcokifadaedaaDoorW.PrintWords Go.Proofs.YtjpcokifadaedaaDoorW.PrintLast Go.Proofs.YtjpcokifadaedaaDoorW.PrintMore
theorem bits_step (s : ByteArray) (k mk n : Nat) : natsOf (bitsN s k (mk : Int) (n + 1)) = (natsOf (bitsN s k (mk : Int) n)).set (k + n) (((natsOf (bitsN s k (mk : Int) n)).getD (k + n) 0) ^^^ (mk / 2 ^ (8 * n) % 256)) := by
  have hm : (mk : Int) / 2 ^ (8 * n) % 256 = ((mk / 2 ^ (8 * n) % 256 : Nat) : Int) := by
    rw [show ((2 : Int) ^ (8 * n)) = ((2 ^ (8 * n) : Nat) : Int) by simp]
    rfl
  rw [bitsN, getD_nats, hm, bx8 _ _ (getD_lt _ _) (Nat.mod_lt _ (by decide)), nats_set _ _ _ (Crc.xor_lt (n := 8) (getD_lt _ _) (Nat.mod_lt _ (by decide)))]
theorem part4 (l : List Nat) (k : Nat) (h : k + 4 ≤ l.length) : ∃ (pre post : List Nat) (a0 a1 a2 a3 : Nat), pre.length = k ∧ l = pre ++ a0 :: a1 :: a2 :: a3 :: post := by
  refine ⟨l.take k, l.drop (k + 4), l[k], l[k + 1], l[k + 2], l[k + 3], by rw [List.length_take]; omega, ?_⟩
  rw [← List.drop_eq_getElem_cons (i := k + 3), ← List.drop_eq_getElem_cons (i := k + 2), ← List.drop_eq_getElem_cons (i := k + 1), ← List.drop_eq_getElem_cons (i := k), List.take_append_drop]
theorem set_in (pre post : List Nat) (a0 a1 a2 a3 : Nat) (k n : Nat) (hk : pre.length = k) (v : Nat) : (pre ++ a0 :: a1 :: a2 :: a3 :: post).set (k + n) v = pre ++ (a0 :: a1 :: a2 :: a3 :: post).set n v := by
  rw [List.set_append_right _ _ (by omega), hk, Nat.add_sub_cancel_left]
theorem get_in (pre post : List Nat) (a0 a1 a2 a3 : Nat) (k n : Nat) (hk : pre.length = k) : (pre ++ a0 :: a1 :: a2 :: a3 :: post).getD (k + n) 0 = (a0 :: a1 :: a2 :: a3 :: post).getD n 0 := by
  rw [List.getD_eq_getElem?_getD, List.getElem?_append_right (by omega), hk, Nat.add_sub_cancel_left, ← List.getD_eq_getElem?_getD]
theorem bits_nats (s : ByteArray) (k mk : Nat) (pre post : List Nat) (a0 a1 a2 a3 : Nat) (hk : pre.length = k) (hl : natsOf s = pre ++ a0 :: a1 :: a2 :: a3 :: post) :
    natsOf (bitsN s k (mk : Int) 4) = pre ++ (a0 ^^^ (mk % 256)) :: (a1 ^^^ (mk / 256 % 256)) :: (a2 ^^^ (mk / 65536 % 256)) :: (a3 ^^^ (mk / 16777216 % 256)) :: post := by
  have h0 : natsOf (bitsN s k (mk : Int) 0) = pre ++ a0 :: a1 :: a2 :: a3 :: post := hl
  have h1 := bits_step s k mk 0
  rw [h0, set_in _ _ _ _ _ _ _ _ hk, get_in _ _ _ _ _ _ _ _ hk] at h1
  simp only [Nat.mul_zero, Nat.pow_zero, Nat.div_one, List.set_cons_zero, List.getD_cons_zero] at h1
  have h2 := bits_step s k mk 1
  rw [h1, set_in _ _ _ _ _ _ _ _ hk, get_in _ _ _ _ _ _ _ _ hk] at h2
  simp only [List.set_cons_zero, List.set_cons_succ, List.getD_cons_zero, List.getD_cons_succ] at h2
  have h3 := bits_step s k mk 2
  rw [h2, set_in _ _ _ _ _ _ _ _ hk, get_in _ _ _ _ _ _ _ _ hk] at h3
  simp only [List.set_cons_zero, List.set_cons_succ, List.getD_cons_zero, List.getD_cons_succ] at h3
  have h4 := bits_step s k mk 3
  rw [h3, set_in _ _ _ _ _ _ _ _ hk, get_in _ _ _ _ _ _ _ _ hk] at h4
  simp only [List.set_cons_zero, List.set_cons_succ, List.getD_cons_zero, List.getD_cons_succ] at h4
  exact h4
theorem xor_self0 {a m : Nat} (h : a ^^^ m = a) : m = 0 := by
  have := congrArg (a ^^^ ·) h
  simpa [← Nat.xor_assoc] using this
theorem bit_true (s : ByteArray) (at_ : Int) (mk : Nat) (hmk : mk < 4294967296) : bitP s at_ (mk : Int) := by
  intro h4 hm0 he
  generalize hk : (at_ % 18446744073709551616).toNat % (s.size - 3) = k at he
  have hkl : k + 4 ≤ (natsOf s).length := by
    rw [natsOf_length]
    have : k < s.size - 3 := by rw [← hk]; exact Nat.mod_lt _ (by omega)
    omega
  obtain ⟨pre, post, a0, a1, a2, a3, hpre, hl⟩ := part4 _ k hkl
  have hb := bits_nats s k mk pre post a0 a1 a2 a3 hpre hl
  have hall := natsOf_lt s
  rw [hl] at hall
  have ha0 : a0 < 256 := hall a0 (by simp)
  have ha1 : a1 < 256 := hall a1 (by simp)
  have ha2 : a2 < 256 := hall a2 (by simp)
  have ha3 : a3 < 256 := hall a3 (by simp)
  have hpre' : ∀ c ∈ pre, c < 256 := fun c hc => hall c (by simp [hc])
  have hpost : ∀ c ∈ post, c < 256 := fun c hc => hall c (by simp [hc])
  rw [crcV_nat, crcV_nat, hb, hl] at he
  have he2 := Int.ofNat_inj.1 he
  have m0 : mk % 256 < 256 := Nat.mod_lt _ (by decide)
  have m1 : mk / 256 % 256 < 256 := Nat.mod_lt _ (by decide)
  have m2 : mk / 65536 % 256 < 256 := Nat.mod_lt _ (by decide)
  have m3 : mk / 16777216 % 256 < 256 := Nat.mod_lt _ (by decide)
  have b0 := Crc.xor_lt (n := 8) ha0 m0
  have b1 := Crc.xor_lt (n := 8) ha1 m1
  have b2 := Crc.xor_lt (n := 8) ha2 m2
  have b3 := Crc.xor_lt (n := 8) ha3 m3
  have hz : mk % 256 = 0 ∧ mk / 256 % 256 = 0 ∧ mk / 65536 % 256 = 0 ∧ mk / 16777216 % 256 = 0 := by
    generalize mk % 256 = n0 at *
    generalize mk / 256 % 256 = n1 at *
    generalize mk / 65536 % 256 = n2 at *
    generalize mk / 16777216 % 256 = n3 at *
    have hrow : Crc.row (pre ++ [a0 ^^^ n0, a1 ^^^ n1, a2 ^^^ n2, a3 ^^^ n3] ++ post) 4294967295 = Crc.row (pre ++ [a0, a1, a2, a3] ++ post) 4294967295 := by
      have := congrArg (· ^^^ 4294967295) he2
      simpa [Crc.crc, Nat.xor_assoc, List.append_assoc] using this
    rw [Crc.row_append, Crc.row_append, Crc.row_append, Crc.row_append] at hrow
    have hr := Crc.row_lt pre 4294967295 hpre' (by decide)
    have h5 := Crc.row_inj post _ _ hpost (Crc.row_lt _ _ (by intro c hc; simp at hc; omega) hr) (Crc.row_lt _ _ (by intro c hc; simp at hc; omega) hr) hrow
    obtain ⟨e0, e1, e2, e3⟩ := Crc.row_burst _ _ _ _ _ _ _ _ _ hr b0 b1 b2 b3 ha0 ha1 ha2 ha3 h5
    exact ⟨xor_self0 e0, xor_self0 e1, xor_self0 e2, xor_self0 e3⟩
  apply hm0
  have : mk = 0 := by omega
  rw [this]
  rfl
theorem DigestBits (s : ByteArray) (at_ mask : Int) (hs : s.size ≤ 140737488351232) (h1 : (Lit.int .i64 at_).wf = true) (h2 : (Lit.int .u32 mask).wf = true) (W : World) (gl : Glob W) :
    Calls Tryd.prog 6 #[.string s, .int .i64 at_, .int .u32 mask] W fun e w' => e = .returned (.bool true) ∧ Below W.heap.size W w' := by
  have hr : 0 ≤ mask ∧ mask ≤ 4294967295 := by simpa [Lit.wf, IntKind.min, IntKind.max, IntKind.signed, IntKind.bits] using h2
  obtain ⟨mk, rfl⟩ := Int.eq_ofNat_of_zero_le hr.1
  exact tenancylaw05_DigestBits.calls s at_ (mk : Int) (by omega) (bit_true s at_ mk (by omega)) W gl
end Go.Proofs.YtjpcokifadaedaaDoor.X.Pure
