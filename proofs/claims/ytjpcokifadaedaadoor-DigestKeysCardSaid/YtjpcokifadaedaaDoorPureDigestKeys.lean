/- The plain side of DigestKeys. No condition. Own text. -/
import Derived.Test.YtjpcokifadaedaaDoorXDC
import Derived.Test.YtjpcokifadaedaaDoorXMd
set_option linter.unusedVariables false
namespace Go.Proofs.YtjpcokifadaedaaDoor.X.Pure
open Go Go.RowKit Go.Proofs.YtjpcokifadaedaaDoorW.PrintWords Go.Proofs.YtjpcokifadaedaaDoorW.PrintLast Go.Proofs.YtjpcokifadaedaaDoorW.PrintMore
theorem zero_eq (s : ByteArray) : ∀ n, rzeroN s n = s ++ zeroS n
  | 0 => by
    show s = s ++ zeroS 0
    apply ByteArray.ext
    rw [ByteArray.data_append]
    show _ = _ ++ #[]
    rw [Array.append_empty]
  | n + 1 => by
    show XAp.pushB (rzeroN s n) 0 = _
    rw [push_app, zero_eq s n, ByteArray.append_assoc]
    congr 1
    exact zero_push n
theorem hmP_eq (key : ByteArray) : rhmP key = hmP key := by
  have h : rhmK key = hmK key := by unfold rhmK hmK; rw [md5_eq]
  unfold rhmP hmP
  rw [zero_eq, h]
theorem list_at (s : ByteArray) (i : Nat) (h : i < s.size) : s.data.toList.drop i = UInt8.ofNat ((bytesOf s).getD i 0).toNat :: s.data.toList.drop (i + 1) := by
  have hl : i < s.data.toList.length := by rw [data_length]; exact h
  rw [List.drop_eq_getElem_cons hl]
  congr 1
  simp [bytesOf, List.getD_eq_getElem?_getD, List.getElem?_eq_getElem hl]
theorem byte_back (s : ByteArray) (i : Nat) (h : i < s.size) : s.data.toList[i]? = some (UInt8.ofNat ((bytesOf s).getD i 0).toNat) := by
  have := list_at s i h
  have h2 : (s.data.toList.drop i)[0]? = some (UInt8.ofNat ((bytesOf s).getD i 0).toNat) := by rw [this]; rfl
  rw [List.getElem?_drop] at h2
  exact h2
theorem mask_list (s : ByteArray) (m : Int) : ∀ n, n ≤ s.size → (maskN s m n).data.toList = (rxorN s m n).data.toList ++ s.data.toList.drop n
  | 0, _ => rfl
  | n + 1, h => by
    have ih := mask_list s m n (by omega)
    have hx : (rxorN s m n).data.toList.length = n := by rw [data_length]; exact rxorN_size s m n
    have hb : (bytesOf (maskN s m n)).getD n 0 = (bytesOf s).getD n 0 := by
      unfold bytesOf
      rw [ih, List.map_append, List.getD_eq_getElem?_getD, List.getElem?_append_right (by rw [List.length_map, hx]; exact Nat.le_refl _), List.length_map, hx, Nat.sub_self, List.map_drop, List.getElem?_drop, List.getD_eq_getElem?_getD]
      rfl
    show ((maskN s m n).data.setIfInBounds n (UInt8.ofNat (Go.bits .xor .u8 ((bytesOf (maskN s m n)).getD n 0) m).toNat)).toList = ((rxorN s m n).data.push (UInt8.ofNat (Go.bits .xor .u8 ((bytesOf s).getD n 0) m).toNat)).toList ++ s.data.toList.drop (n + 1)
    rw [hb, Array.toList_setIfInBounds, ih, Array.toList_push, list_at s n (by omega), List.set_append_right _ _ (by rw [hx]; exact Nat.le_refl _), hx, Nat.sub_self, List.append_assoc]
    rfl
theorem mask_eq (s : ByteArray) (m : Int) : digest_masked.f s m = rxorN s m s.size := by
  unfold digest_masked.f
  apply ByteArray.ext
  apply Array.ext'
  rw [mask_list s m s.size (Nat.le_refl _), List.drop_eq_nil_of_le (by rw [data_length]; exact Nat.le_refl _), List.append_nil]
theorem hmac_eq (key s : ByteArray) : digest_HMAC.f key s = tenancyref05_HMAC.f key s := by
  unfold digest_HMAC.f tenancyref05_HMAC.f
  rw [mask_eq, mask_eq, hmP_eq, hmP_size, md5_eq, md5_eq]
theorem DigestKeys (key s : ByteArray) (hk : key.size ≤ 140737488351232) (hs : s.size ≤ 140737488351232) (W : World) (gl : Glob W) (rgl : RGlob W) :
    Calls Tryd.prog 4 #[.string key, .string s] W fun e W' => e = .returned (.bool true) ∧ Below W.heap.size W W' :=
  tenancylaw05_DigestKeys.calls key s hk hs (hmac_eq key s) W gl rgl
end Go.Proofs.YtjpcokifadaedaaDoor.X.Pure
