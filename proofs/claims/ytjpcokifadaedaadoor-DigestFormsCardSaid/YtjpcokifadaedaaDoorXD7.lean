import Derived.RangeFuncNested
import Derived.RangeFuncBound
import Derived.RangeFuncCalls
import Derived.RangeFuncLeaves
import Derived.Shelf.Abstract
import Derived.Shelf.RegionOpen
import Derived.WalkKit
import Derived.OwnWalkIn
import Derived.TacticsInMore
import Derived.LoopNIn
import Derived.LoopIn
import Derived.Lib.AppendZerosOnto
import Derived.Shelf.Spec.SlicesInsert
import Derived.Deep.RegionLaw
import Derived.WalkLawsBesides
import Derived.Recover
import Derived.Defers
import Derived.Test.YtjpcokifadaedaaDoorX0
import Derived.Test.YtjpcokifadaedaaDoorXOrow
import Derived.Outline
import Derived.Lib.Hide
import Derived.Laws.IdiomCopy
import Derived.Lib.SliceRun
import Derived.WalkSpells
import Derived.Test.YtjpcokifadaedaaDoorXD6
namespace Go.Proofs.YtjpcokifadaedaaDoor.X
open Go.RowKit Go.Proofs.YtjpcokifadaedaaDoorW.PrintWords Go.Proofs.YtjpcokifadaedaaDoorW.PrintLast Go.Proofs.YtjpcokifadaedaaDoorW.PrintMore
set_option linter.unusedVariables false
set_option linter.unusedSimpArgs false
/-! ### tenancylaw05_DigestForms: function 7: by hand -/
def padN (key : ByteArray) : Nat → ByteArray
  | 0 => key
  | n + 1 => padN key n ++ ⟨#[0]⟩
theorem padN_size (key : ByteArray) : ∀ n, (padN key n).size = key.size + n
  | 0 => rfl
  | n + 1 => by show (padN key n ++ ⟨#[0]⟩).size = _; rw [ByteArray.size_append, padN_size key n]; rfl
def formP (key s : ByteArray) : Prop := (64 < key.size → digest_HMAC.f (digest_MD5.f key) s = digest_HMAC.f key s) ∧ (∀ n, key.size + n ≤ 64 → digest_HMAC.f (padN key n) s = digest_HMAC.f key s) ∧ (digest_HMAC.f key s).size = 16 ∧ (digest_MD5.f s).size = 16
set_option maxHeartbeats 4000000 in
set_option maxRecDepth 100000 in
theorem tenancylaw05_DigestForms.calls (key s : ByteArray) (hk : key.size ≤ 140737488355328) (hs : s.size ≤ 140737488355328) (hP : formP key s) (w : World) (gl : Glob w) :
    Calls Tryd.prog 7 #[.string key, .string s] w fun e w' => e = .returned (.bool true) ∧ Below w.heap.size w w' := by
  have GL := Aside0.mk gl
  have HP := Aside0.mk hP
  have HZ := Aside0.mk (show key.size ≤ 140737488355328 ∧ s.size ≤ 140737488355328 from ⟨hk, hs⟩)
  have HH := Aside0.mk (show ∃ h, h = digest_HMAC.f key s from ⟨_, rfl⟩)
  clear gl hP hk hs
  obtain ⟨h, hh⟩ := HH.out
  clear HH
  have hsz : h.size = 16 := by rw [hh]; exact HP.out.2.2.1
  have hmd := HP.out.2.2.2
  have HE := Aside0.mk hh
  clear hh
  generalize hmv : digest_MD5.f s = mv at hmd
  go_enter Tryd.func7, Tryd.ntmps7
  go_upto_region 6 with (first
    | (go_at_call 8; refine (tenancylaw05_awake.calls _ GL.out).mono ?_; rintro e w1 ⟨rfl, hb⟩; have HB1 := Aside0.mk hb; clear hb)
    | (go_at_call 13; refine (digest_HMAC.calls key s (by have := HZ.out; omega) (by have := HZ.out; omega) _ (GL.out.below HB1.out)).mono ?_; rintro e w2 ⟨rfl, hb⟩; rw [← HE.out]; have HB2 := Aside0.mk (below_step HB1.out hb); clear hb)
    | (go_at_call 11; refine (digest_MD5.calls s (by have := HZ.out; omega) _ (GL.out.below HB2.out)).mono ?_; rintro e w3 ⟨rfl, hb⟩; rw [hmv]; have HB3 := Aside0.mk (below_step HB2.out hb); clear hb))
  by_cases c : 64 < key.size
  · have hgt : (64 : Int) < (key.size : Int) := by omega
    have HQ : Aside0 (digest_HMAC.f (digest_MD5.f key) s = h) := ⟨by rw [HE.out]; exact HP.out.1 c⟩
    have HM := Aside0.mk (md5_size key)
    generalize hmk : digest_MD5.f key = mk at HQ HM
    go_wp2_with (first
      | (go_at_call 11; refine (digest_MD5.calls key (by have := HZ.out; omega) _ (GL.out.below HB3.out)).mono ?_; rintro e w4 ⟨rfl, hb⟩; rw [hmk]; have HB4 := Aside0.mk (below_step HB3.out hb); clear hb)
      | (go_at_call 13; refine (digest_HMAC.calls mk s (by rw [HM.out]; decide) (by have := HZ.out; omega) _ (GL.out.below HB4.out)).mono ?_; rintro e w5 ⟨rfl, hb⟩; rw [HQ.out]; have HB5 := Aside0.mk (below_step HB4.out hb); clear hb))
    go_ret
    exact ⟨by simp, HB5.out⟩
  · have hgt : ¬ (64 : Int) < (key.size : Int) := by omega
    go_upto_region 8 with fail
    have HK0 : Aside0 (key.size ≤ 64) := ⟨by omega⟩
    have hle : (key.size : Int) ≤ 64 := by omega
    clear c hgt
    go_loopg [0] (64 - key.size) (fun gg s0 wr => ∃ (n : Nat) (u : ByteArray), Aside0 (key.size + n ≤ 64 ∧ 64 - key.size - n ≤ gg) ∧ s0 = .string u ∧ Aside0 (padN key n = u) ∧ Aside0 (Below w.heap.size w wr))
    case atStart => exact ⟨0, key, ⟨by have := HK0.out; omega⟩, rfl, ⟨rfl⟩, HB3⟩
    case round =>
      clear HB3
      obtain ⟨n, u, HK, rfl, HU, HB⟩ := hrel
      have hus : u.size = key.size + n := by rw [← HU.out]; exact padN_size key n
      by_cases c2 : key.size + n < 64
      · have HUS := Aside0.mk hus
        have hlt : (u.size : Int) < 64 := by omega
        have HC := Aside0.mk c2
        have h63 : u.size + 1 ≤ 9223372036854775807 := by omega
        have he : padN key (n + 1) = u ++ ⟨#[0]⟩ := by rw [← HU.out]; rfl
        have hq := HP.out.2.1 (n + 1) (by omega)
        rw [he, ← HE.out] at hq
        have HQ := Aside0.mk hq
        have HE2 := Aside0.mk he
        clear hq he
        have HS1 : Aside0 ((u ++ ⟨#[0]⟩ : ByteArray).size ≤ 1152921504606846976) := ⟨by rw [ByteArray.size_append]; show u.size + 1 ≤ _; omega⟩
        have HS2 : Aside0 (s.size ≤ 576460752303423488) := ⟨by have := HZ.out; omega⟩
        clear hus c2 hle
        go_wp2_with (go_at_call 13; with_reducible refine (digest_HMAC.calls (u ++ ⟨#[0]⟩) s HS1.out HS2.out wr (GL.out.below HB.out)).mono ?_; rintro e w5 ⟨rfl, hb⟩; rw [HQ.out]; have HB5 := Aside0.mk (below_step HB.out hb); clear hb)
        go_roundg (64 - key.size - (n + 1))
        case measure => have := HK.out; have := HC.out; omega
        case rel => exact ⟨n + 1, _, ⟨by have := HC.out; omega⟩, rfl, HE2, HB5⟩
      · have hlt : ¬ (u.size : Int) < 64 := by omega
        clear hus c2 hle HP HE
        go_wp2
        go_ret
        exact ⟨rfl, HB.out⟩

end Go.Proofs.YtjpcokifadaedaaDoor.X
