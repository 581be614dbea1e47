/- The plain side of DigestForms. No condition. Own text. -/
import Derived.Test.YtjpcokifadaedaaDoorXD7
set_option linter.unusedVariables false
namespace Go.Proofs.YtjpcokifadaedaaDoor.X.Pure
open Go Go.RowKit Go.Proofs.YtjpcokifadaedaaDoorW.PrintWords Go.Proofs.YtjpcokifadaedaaDoorW.PrintLast Go.Proofs.YtjpcokifadaedaaDoorW.PrintMore
theorem zeroS_succ (n : Nat) : (⟨#[0]⟩ : ByteArray) ++ zeroS n = zeroS (n + 1) := by
  apply ByteArray.ext
  apply Array.ext'
  simp [zeroS, Lib.repeatL, ByteArray.data_append]
theorem zeroS_zero : zeroS 0 = ⟨#[]⟩ := rfl
theorem pad_zero (key : ByteArray) : ∀ n m, padN key n ++ zeroS m = key ++ zeroS (n + m)
  | 0, m => by rw [Nat.zero_add]; rfl
  | n + 1, m => by
    show (padN key n ++ ⟨#[0]⟩) ++ zeroS m = _
    rw [ByteArray.append_assoc, zeroS_succ, pad_zero key n (m + 1), show n + (m + 1) = n + 1 + m by omega]
theorem hmP_pad (key : ByteArray) (n : Nat) (h : key.size + n ≤ 64) : hmP (padN key n) = hmP key := by
  have h1 : hmK (padN key n) = padN key n := by unfold hmK; rw [if_neg (by rw [padN_size]; omega)]
  have h2 : hmK key = key := by unfold hmK; rw [if_neg (by omega)]
  unfold hmP
  rw [h1, h2, padN_size, pad_zero, show n + (64 - (key.size + n)) = 64 - key.size by omega]
theorem hmP_long (key : ByteArray) (h : 64 < key.size) : hmP (digest_MD5.f key) = hmP key := by
  have h1 : hmK (digest_MD5.f key) = digest_MD5.f key := by unfold hmK; rw [if_neg (by rw [md5_size]; decide)]
  have h2 : hmK key = digest_MD5.f key := by unfold hmK; rw [if_pos h]
  unfold hmP
  rw [h1, h2]
theorem form_true (key s : ByteArray) : formP key s := by
  refine ⟨fun h => ?_, fun n h => ?_, md5_size _, md5_size s⟩
  · unfold digest_HMAC.f; rw [hmP_long key h]
  · unfold digest_HMAC.f; rw [hmP_pad key n h]
theorem DigestForms (key s : ByteArray) (hk : key.size ≤ 140737488351232) (hs : s.size ≤ 140737488351232) (W : World) (gl : Glob W) :
    Calls Tryd.prog 7 #[.string key, .string s] W fun e w' => e = .returned (.bool true) ∧ Below W.heap.size W w' :=
  tenancylaw05_DigestForms.calls key s (by omega) (by omega) (form_true key s) W gl
end Go.Proofs.YtjpcokifadaedaaDoor.X.Pure
