import Derived.RangeFuncNested
import Derived.RangeFuncBound
import Derived.RangeFuncCalls
import Derived.RangeFuncLeaves
import Derived.Shelf.Abstract
import Derived.Shelf.RegionOpen
import Derived.WalkKit
import Derived.OwnWalkIn
import Derived.TacticsInMore
import Derived.LoopNIn
import Derived.LoopIn
import Derived.Lib.AppendZerosOnto
import Derived.Shelf.Spec.SlicesInsert
import Derived.Deep.RegionLaw
import Derived.WalkLawsBesides
import Derived.Recover
import Derived.Defers
import Derived.Test.YtjpcokifadaedaaDoorX0
import Derived.Test.YtjpcokifadaedaaDoorXOrow
import Derived.Outline
import Derived.Lib.Hide
import Derived.Laws.IdiomCopy
import Derived.Lib.SliceRun
import Derived.WalkSpells
import Derived.Test.YtjpcokifadaedaaDoorXD2
namespace Go.Proofs.YtjpcokifadaedaaDoor.X
open Go.RowKit Go.Proofs.YtjpcokifadaedaaDoorW.PrintWords Go.Proofs.YtjpcokifadaedaaDoorW.PrintLast Go.Proofs.YtjpcokifadaedaaDoorW.PrintMore
set_option linter.unusedVariables false
set_option linter.unusedSimpArgs false
/-! ### digest_masked: function 23: by hand -/
theorem u8_in (op : BinOp) (a b : Int) : 0 ≤ Go.bits op .u8 a b ∧ Go.bits op .u8 a b < 256 := by
  have := bits_within op .u8 a b
  have h1 : IntKind.u8.min = 0 := rfl
  have h2 : IntKind.u8.max = 255 := rfl
  omega
def maskN (s : ByteArray) (mask : Int) : Nat → ByteArray
  | 0 => s
  | n + 1 => XByR.setB (maskN s mask n) n (Go.bits .xor .u8 ((bytesOf (maskN s mask n)).getD n 0) mask)
theorem maskN_size (s : ByteArray) (mask : Int) : ∀ n, (maskN s mask n).size = s.size
  | 0 => rfl
  | n + 1 => by show (XByR.setB _ _ _).size = _; rw [XByR.size_setB]; exact maskN_size s mask n
def digest_masked.f (s : ByteArray) (mask : Int) : ByteArray := maskN s mask s.size
set_option maxHeartbeats 4000000 in
set_option maxRecDepth 100000 in
theorem digest_masked.calls (s : ByteArray) (mask : Int) (hs : s.size ≤ 140737488355328) (w : World) :
    Calls Tryd.prog 23 #[.string s, .int .u8 mask] w fun e w' => e = .returned (.string (digest_masked.f s mask)) ∧ Below w.heap.size w w' := by
  have HZ := Aside0.mk hs
  clear hs
  go_enter Tryd.func23, Tryd.ntmps23
  go_upto_region 3 with ((with_reducible refine gate_dst (N := 8) rfl ?_); refine XRun.convL_ 8 rfl rfl 9 31 5 Tryd.underlying9 Tryd.underlying31 Tryd.underlying5 s rfl (by first | rfl | (go_simp; done) | (go_simp; rfl)) ?_; refine ⟨_, rfl, ?_⟩)
  have BY := Aside0.mk (XByR.ByR.new w 5 s)
  have HB := Aside0.mk (bytes_below (Below.refl _ w) (Nat.le_refl _) 5 s)
  generalize grownCap w s.size 0 5 = cc
  generalize Lib.bytesWorld w 5 s = wy at BY HB ⊢
  generalize hgy : w.heap.size = gy at BY ⊢
  go_loopg [6, 11] s.size (fun gg _ s11 wr => ∃ (kk : Nat) (u : ByteArray), Aside0 (kk ≤ s.size ∧ s.size - kk ≤ gg) ∧ s11 = .int .i64 kk ∧ Aside0 (maskN s mask kk = u) ∧ Aside0 (XByR.ByR 5 wr gy u) ∧ Aside0 (Below w.heap.size w wr))
  case atStart => exact ⟨0, s, ⟨Nat.zero_le _, Nat.le_refl _⟩, rfl, ⟨rfl⟩, BY, HB⟩
  case round =>
    clear BY HB
    obtain ⟨kk, u, HK, rfl, HU, BY, HB⟩ := hrel
    have hus : u.size = s.size := HU.out ▸ maskN_size s mask kk
    by_cases hlt : kk < s.size
    · have hc := BY.out.cell kk (by omega)
      have hfz := BY.out.frozen kk (by omega)
      have hltz : (kk : Int) < (s.size : Int) := by omega
      have HLT := Aside0.mk hlt
      have BY2 := Aside0.mk (BY.out.set kk (by omega) (Go.bits .xor .u8 ((bytesOf u).getD kk 0) mask) (u8_in _ _ _))
      have HB2 := Aside0.mk (HB.out.setCell (p := ⟨gy, kk, none⟩) (Nat.le_of_eq hgy) (.int .u8 (Go.bits .xor .u8 ((bytesOf u).getD kk 0) mask)))
      have HU2 : Aside0 (maskN s mask (kk + 1) = XByR.setB u kk (Go.bits .xor .u8 ((bytesOf u).getD kk 0) mask)) := ⟨by show XByR.setB (maskN s mask kk) kk (Go.bits .xor .u8 ((bytesOf (maskN s mask kk)).getD kk 0) mask) = _; rw [HU.out]⟩
      generalize (bytesOf u).getD kk 0 = c at hc BY2 HB2 HU2
      clear hus
      go_wp2
      go_roundg (s.size - (kk + 1))
      case measure => have := HK.out; have := HLT.out; omega
      case rel => exact ⟨kk + 1, _, ⟨by have := HLT.out; omega, Nat.le_refl _⟩, by first | rfl | (rw [Go.IntWalk.wrap64_in _ (by have := HLT.out; have := HZ.out; omega)]; rfl), HU2, BY2, HB2⟩
    · obtain rfl : kk = s.size := by have := HK.out; omega
      have hltz : ¬ (s.size : Int) < (s.size : Int) := by omega
      have hcv := fun c => BY.out.text (P := Tryd.prog) 31 9 Tryd.underlying31 Tryd.underlying5 Tryd.underlying9 c
      rw [hus] at hcv
      go_wp2
      go_ret
      exact ⟨by rw [← HU.out]; rfl, hgy ▸ HB.out⟩

/-! ### digest_HMAC: function 13: by hand -/
theorem md5_size (s : ByteArray) : (digest_MD5.f s).size = 16 := by
  unfold digest_MD5.f mdS
  rw [ByteArray.size_append, ByteArray.size_append, ByteArray.size_append, leS_size, leS_size, leS_size, leS_size]
theorem rep_eq64 (n : Nat) (h : n ≤ 64) : strings_Repeat.f ⟨#[0]⟩ (64 - (n : Int)) = some (zeroS (64 - n)) := by
  rw [show (64 - (n : Int)) = ((64 - n : Nat) : Int) by omega]
  exact rep_eq (64 - n) (by omega)
def hmK (key : ByteArray) : ByteArray := if 64 < key.size then digest_MD5.f key else key
theorem hmK_size (key : ByteArray) : (hmK key).size ≤ 64 := by
  unfold hmK
  split
  · rw [md5_size]; decide
  · omega
def hmP (key : ByteArray) : ByteArray := hmK key ++ zeroS (64 - (hmK key).size)
theorem hmP_size (key : ByteArray) : (hmP key).size = 64 := by
  unfold hmP
  rw [ByteArray.size_append, zeroS_size]
  have := hmK_size key
  omega
def digest_HMAC.f (key s : ByteArray) : ByteArray := digest_MD5.f (digest_masked.f (hmP key) 92 ++ digest_MD5.f (digest_masked.f (hmP key) 54 ++ s))
theorem masked_size (s : ByteArray) (m : Int) : (digest_masked.f s m).size = s.size := maskN_size s m s.size
set_option maxHeartbeats 4000000 in
set_option maxRecDepth 100000 in
theorem digest_HMAC.calls (key s : ByteArray) (hk : key.size ≤ 1152921504606846976) (hs : s.size ≤ 576460752303423488) (w : World) (gl : Glob w) :
    Calls Tryd.prog 13 #[.string key, .string s] w fun e w' => e = .returned (.string (digest_HMAC.f key s)) ∧ Below w.heap.size w w' := by
  have HS := Aside0.mk hs
  have HK := Aside0.mk hk
  have GL := Aside0.mk gl
  have HKS := Aside0.mk (hmK_size key)
  have HP : Aside0 (hmP key = hmK key ++ zeroS (64 - (hmK key).size)) := ⟨rfl⟩
  have HPS := Aside0.mk (hmP_size key)
  have HKd : Aside0 (hmK key = if 64 < key.size then digest_MD5.f key else key) := ⟨rfl⟩
  have HF : Aside0 (digest_HMAC.f key s = digest_MD5.f (digest_masked.f (hmP key) 92 ++ digest_MD5.f (digest_masked.f (hmP key) 54 ++ s))) := ⟨rfl⟩
  clear hs hk gl
  generalize hmK key = hk at HKS HP HKd
  generalize hmP key = kp at HP HPS HF
  go_enter Tryd.func13, Tryd.ntmps13
  by_cases c : 64 < key.size
  · have hgt : (64 : Int) < (key.size : Int) := by omega
    have h1 := HKd.out
    rw [if_pos c] at h1
    subst h1
    clear c HKd
    go_upto_region 3 with (go_at_call 11; refine (digest_MD5.calls key HK.out _ GL.out).mono ?_; rintro e w1 ⟨rfl, hb⟩; have HB := Aside0.mk hb; clear hb)
    generalize digest_MD5.f key = hk at HKS HP ⊢
    have hw0 : wrap64 (64 - (hk.size : Int)) = 64 - (hk.size : Int) := Go.IntWalk.wrap64_in _ (by have := HKS.out; omega)
    have hzs : (zeroS (64 - hk.size)).size = 64 - hk.size := zeroS_size _
    have hz9 : hk.size + (zeroS (64 - hk.size)).size ≤ 9223372036854775807 := by rw [hzs]; have := HKS.out; omega
    have hre := rep_eq64 hk.size HKS.out
    generalize zeroS (64 - hk.size) = zs at HP hre hz9 hzs
    go_upto_region 4 with (go_at_call 16; refine (strings_Repeat.calls ⟨#[0]⟩ _ zs _ hre).mono ?_; rintro e wa ⟨rfl, hb⟩; have HBa := Aside0.mk (below_step HB.out hb); clear hb)
    rw [← HP.out]
    have h64 := HPS.out
    have hm1 := masked_size kp 92
    have hm2 := masked_size kp 54
    have hs35 := HS.out
    generalize hM1 : digest_masked.f kp 92 = m1 at hm1 HF
    generalize hM2 : digest_masked.f kp 54 = m2 at hm2 HF
    have hq1 : m2.size + s.size ≤ 9223372036854775807 := by omega
    have H5 := Aside0.mk (show (m2 ++ s).size ≤ 1152921504606846976 by rw [ByteArray.size_append]; omega)
    have hd1 := md5_size (m2 ++ s)
    generalize hD1 : digest_MD5.f (m2 ++ s) = d1 at hd1 HF
    have hq2 : m1.size + d1.size ≤ 9223372036854775807 := by omega
    have H6 := Aside0.mk (show (m1 ++ d1).size ≤ 1152921504606846976 by rw [ByteArray.size_append]; omega)
    go_wp2_with (first
      | (go_at_call 23; with_reducible refine (digest_masked.calls kp 92 (by omega) wa).mono ?_; rintro e w2 ⟨rfl, hb⟩; have HB2 := Aside0.mk (below_step HBa.out hb); clear hb; rw [hM1])
      | (go_at_call 23; with_reducible refine (digest_masked.calls kp 54 (by omega) w2).mono ?_; rintro e w3 ⟨rfl, hb⟩; have HB3 := Aside0.mk (below_step HB2.out hb); clear hb; rw [hM2])
      | (go_at_call 11; with_reducible refine (digest_MD5.calls (m2 ++ s) H5.out w3 (GL.out.below HB3.out)).mono ?_; rintro e w4 ⟨rfl, hb⟩; have HB4 := Aside0.mk (below_step HB3.out hb); clear hb; rw [hD1])
      | (go_at_call 11; with_reducible refine (digest_MD5.calls (m1 ++ d1) H6.out w4 (GL.out.below HB4.out)).mono ?_; rintro e w5 ⟨rfl, hb⟩; have HB5 := Aside0.mk (below_step HB4.out hb); clear hb))
    go_ret
    exact ⟨by rw [HF.out]; rfl, HB5.out⟩
  · have hgt : ¬ (64 : Int) < (key.size : Int) := by omega
    have h1 := HKd.out
    rw [if_neg c] at h1
    subst h1
    clear c HKd
    have HB := Aside0.mk (Below.refl w.heap.size w)
    go_upto_region 3 with fail
    have hw0 : wrap64 (64 - (hk.size : Int)) = 64 - (hk.size : Int) := Go.IntWalk.wrap64_in _ (by have := HKS.out; omega)
    have hzs : (zeroS (64 - hk.size)).size = 64 - hk.size := zeroS_size _
    have hz9 : hk.size + (zeroS (64 - hk.size)).size ≤ 9223372036854775807 := by rw [hzs]; have := HKS.out; omega
    have hre := rep_eq64 hk.size HKS.out
    generalize zeroS (64 - hk.size) = zs at HP hre hz9 hzs
    go_upto_region 4 with (go_at_call 16; refine (strings_Repeat.calls ⟨#[0]⟩ _ zs _ hre).mono ?_; rintro e wa ⟨rfl, hb⟩; have HBa := Aside0.mk (below_step HB.out hb); clear hb)
    rw [← HP.out]
    have h64 := HPS.out
    have hm1 := masked_size kp 92
    have hm2 := masked_size kp 54
    have hs35 := HS.out
    generalize hM1 : digest_masked.f kp 92 = m1 at hm1 HF
    generalize hM2 : digest_masked.f kp 54 = m2 at hm2 HF
    have hq1 : m2.size + s.size ≤ 9223372036854775807 := by omega
    have H5 := Aside0.mk (show (m2 ++ s).size ≤ 1152921504606846976 by rw [ByteArray.size_append]; omega)
    have hd1 := md5_size (m2 ++ s)
    generalize hD1 : digest_MD5.f (m2 ++ s) = d1 at hd1 HF
    have hq2 : m1.size + d1.size ≤ 9223372036854775807 := by omega
    have H6 := Aside0.mk (show (m1 ++ d1).size ≤ 1152921504606846976 by rw [ByteArray.size_append]; omega)
    go_wp2_with (first
      | (go_at_call 23; with_reducible refine (digest_masked.calls kp 92 (by omega) wa).mono ?_; rintro e w2 ⟨rfl, hb⟩; have HB2 := Aside0.mk (below_step HBa.out hb); clear hb; rw [hM1])
      | (go_at_call 23; with_reducible refine (digest_masked.calls kp 54 (by omega) w2).mono ?_; rintro e w3 ⟨rfl, hb⟩; have HB3 := Aside0.mk (below_step HB2.out hb); clear hb; rw [hM2])
      | (go_at_call 11; with_reducible refine (digest_MD5.calls (m2 ++ s) H5.out w3 (GL.out.below HB3.out)).mono ?_; rintro e w4 ⟨rfl, hb⟩; have HB4 := Aside0.mk (below_step HB3.out hb); clear hb; rw [hD1])
      | (go_at_call 11; with_reducible refine (digest_MD5.calls (m1 ++ d1) H6.out w4 (GL.out.below HB4.out)).mono ?_; rintro e w5 ⟨rfl, hb⟩; have HB5 := Aside0.mk (below_step HB4.out hb); clear hb))
    go_ret
    exact ⟨by rw [HF.out]; rfl, HB5.out⟩

end Go.Proofs.YtjpcokifadaedaaDoor.X
