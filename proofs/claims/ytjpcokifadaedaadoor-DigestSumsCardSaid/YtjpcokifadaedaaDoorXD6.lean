import Derived.RangeFuncNested
import Derived.RangeFuncBound
import Derived.RangeFuncCalls
import Derived.RangeFuncLeaves
import Derived.Shelf.Abstract
import Derived.Shelf.RegionOpen
import Derived.WalkKit
import Derived.OwnWalkIn
import Derived.TacticsInMore
import Derived.LoopNIn
import Derived.LoopIn
import Derived.Lib.AppendZerosOnto
import Derived.Shelf.Spec.SlicesInsert
import Derived.Deep.RegionLaw
import Derived.WalkLawsBesides
import Derived.Recover
import Derived.Defers
import Derived.Test.YtjpcokifadaedaaDoorX0
import Derived.Test.YtjpcokifadaedaaDoorXOrow
import Derived.Outline
import Derived.Lib.Hide
import Derived.Laws.IdiomCopy
import Derived.Lib.SliceRun
import Derived.WalkSpells
import Derived.Test.YtjpcokifadaedaaDoorXD5
namespace Go.Proofs.YtjpcokifadaedaaDoor.X
open Go.RowKit Go.Proofs.YtjpcokifadaedaaDoorW.PrintWords Go.Proofs.YtjpcokifadaedaaDoorW.PrintLast Go.Proofs.YtjpcokifadaedaaDoorW.PrintMore
set_option linter.unusedVariables false
set_option linter.unusedSimpArgs false
/-! ### tenancylaw05_DigestBits: function 6: by hand -/
def bitsN (s : ByteArray) (k : Nat) (mask : Int) : Nat → ByteArray
  | 0 => s
  | n + 1 => XByR.setB (bitsN s k mask n) (k + n) (Go.bits .xor .u8 ((bytesOf (bitsN s k mask n)).getD (k + n) 0) (mask / 2 ^ (8 * n) % 256))
theorem bitsN_size (s : ByteArray) (k : Nat) (mask : Int) : ∀ n, (bitsN s k mask n).size = s.size
  | 0 => rfl
  | n + 1 => by show (XByR.setB _ _ _).size = _; rw [XByR.size_setB]; exact bitsN_size s k mask n
def bitP (s : ByteArray) (at_ mask : Int) : Prop := 4 ≤ s.size → mask ≠ 0 → crcV (bitsN s ((at_ % 18446744073709551616).toNat % (s.size - 3)) mask 4) ≠ crcV s
theorem u64_small (n : Nat) (h : n ≤ 140737488355328) : IntKind.u64.wrap (n : Int) = (n : Int) := by
  rw [IntKind.wrap_u64]
  exact Int.emod_eq_of_lt (by omega) (by omega)
theorem u64_nat (x : Int) : ∃ q : Nat, IntKind.u64.wrap x = (q : Int) ∧ (x % 18446744073709551616).toNat = q :=
  ⟨(x % 18446744073709551616).toNat, by rw [IntKind.wrap_u64, Int.toNat_of_nonneg (Int.emod_nonneg _ (by decide))], rfl⟩
set_option maxHeartbeats 4000000 in
set_option maxRecDepth 100000 in
theorem tenancylaw05_DigestBits.calls (s : ByteArray) (at_ mask : Int) (hs : s.size ≤ 140737488355328) (hP : bitP s at_ mask) (w : World) (gl : Glob w) :
    Calls Tryd.prog 6 #[.string s, .int .i64 at_, .int .u32 mask] w fun e w' => e = .returned (.bool true) ∧ Below w.heap.size w w' := by
  have GL := Aside0.mk gl
  have HP := Aside0.mk hP
  have HZ := Aside0.mk hs
  clear gl hP hs
  go_enter Tryd.func6, Tryd.ntmps6
  by_cases c1 : s.size < 4
  · have d1 : (s.size : Int) < 4 := by omega
    go_wp2_with (go_at_call 8; refine (tenancylaw05_awake.calls _ GL.out).mono ?_; rintro e w1 ⟨rfl, hb⟩; have HB1 := Aside0.mk hb; clear hb)
    go_ret
    exact ⟨rfl, HB1.out⟩
  have d1 : ¬ (s.size : Int) < 4 := by omega
  by_cases c2 : mask = 0
  · subst c2
    go_wp2_with (go_at_call 8; refine (tenancylaw05_awake.calls _ GL.out).mono ?_; rintro e w1 ⟨rfl, hb⟩; have HB1 := Aside0.mk hb; clear hb)
    go_ret
    exact ⟨rfl, HB1.out⟩
  have d2 : (mask == 0) = false := by simpa using c2
  have HPx := Aside0.mk (HP.out (by omega) c2)
  clear HP
  obtain ⟨m, hm⟩ : ∃ m, s.size = m + 3 := ⟨s.size - 3, by omega⟩
  obtain ⟨q, hau, hq⟩ := u64_nat at_
  rw [hq, hm, Nat.add_sub_cancel] at HPx
  obtain ⟨k, hk⟩ : ∃ k, k = q % m := ⟨_, rfl⟩
  rw [← hk] at HPx
  have hmz : m ≤ 140737488355328 := by have := HZ.out; omega
  have hklt : k < m := by rw [hk]; exact Nat.mod_lt _ (by omega)
  have hw3 : wrap64 ((s.size : Int) - 3) = (m : Int) := by rw [Go.IntWalk.wrap64_in _ (by omega)]; omega
  have hmu := u64_small m hmz
  have hm0 : (m : Int) ≠ 0 := by omega
  have htm : Int.tmod (q : Int) (m : Int) = (k : Int) := by rw [hk]; exact tmod_nat q m
  have hku := u64_small k (by omega)
  have hwk : wrap64 (k : Int) = (k : Int) := Go.IntWalk.wrap64_in _ (by omega)
  have hdd : decide ((s.size : Int) < 4) = false := decide_eq_false d1
  have HM := Aside0.mk (show s.size = m + 3 ∧ k < m ∧ m ≤ 140737488355328 from ⟨hm, hklt, hmz⟩)
  clear hm hq hk hklt c1 c2 hmz
  go_upto_region 6 with (go_at_call 8; refine (tenancylaw05_awake.calls _ GL.out).mono ?_; rintro e w1 ⟨rfl, hb⟩; have HB1 := Aside0.mk hb; clear hb)
  rw [hwk]
  go_upto_region 7 with ((with_reducible refine gate_dst (N := 28) rfl ?_); refine XRun.convL_ 28 rfl rfl 9 31 5 Tryd.underlying9 Tryd.underlying31 Tryd.underlying5 s rfl (by first | rfl | (go_simp; done) | (go_simp; rfl)) ?_; refine ⟨_, rfl, ?_⟩)
  have BY := Aside0.mk (XByR.ByR.new w1 5 s)
  have HB := Aside0.mk (below_step HB1.out (bytes_below (Below.refl _ w1) (Nat.le_refl _) 5 s))
  have HG1 := Aside0.mk HB1.out.size
  generalize grownCap w1 s.size 0 5 = cc
  generalize Lib.bytesWorld w1 5 s = wy at BY HB ⊢
  generalize w1.heap.size = gy at BY HG1 ⊢
  clear hw3 hau hmu hm0 htm hku hwk hdd d1 d2
  go_upto_region 8 with fail
  go_loopg [9] 4 (fun gg s9 wr => ∃ n : Nat, Aside0 (n ≤ 4 ∧ 4 - n ≤ gg) ∧ s9 = .int .i64 n ∧ Aside0 (XByR.ByR 5 wr gy (bitsN s k mask n)) ∧ Aside0 (Below w.heap.size w wr))
  case atStart => exact ⟨0, ⟨by omega⟩, rfl, BY, HB⟩
  case round =>
    clear BY HB
    obtain ⟨n, HK, rfl, BY, HB⟩ := hrel
    have hcs : n = 0 ∨ n = 1 ∨ n = 2 ∨ n = 3 ∨ n = 4 := by have := HK.out; omega
    rcases hcs with rfl | rfl | rfl | rfl | rfl
    · have hc := BY.out.cell (k) (by rw [bitsN_size]; have := HM.out; omega)
      have hfz := BY.out.frozen (k) (by rw [bitsN_size]; have := HM.out; omega)
      have BY2 := Aside0.mk (BY.out.set (k) (by rw [bitsN_size]; have := HM.out; omega) (Go.bits .xor .u8 ((bytesOf (bitsN s k mask 0)).getD (k) 0) (mask % 256)) (u8_in _ _ _))
      have HB2 := Aside0.mk (HB.out.setCell (p := ⟨gy, k, none⟩) HG1.out (.int .u8 (Go.bits .xor .u8 ((bytesOf (bitsN s k mask 0)).getD (k) 0) (mask % 256))))
      have HU2 : Aside0 (bitsN s k mask (0 + 1) = XByR.setB (bitsN s k mask 0) (k) (Go.bits .xor .u8 ((bytesOf (bitsN s k mask 0)).getD (k) 0) (mask % 256))) := ⟨by show XByR.setB (bitsN s k mask 0) (k + 0) (Go.bits .xor .u8 ((bytesOf (bitsN s k mask 0)).getD (k + 0) 0) (mask / 2 ^ (8 * 0) % 256)) = _; simp⟩
      generalize hbu : bitsN s k mask 0 = u at hc BY2 HB2 HU2
      generalize (bytesOf u).getD (k) 0 = c at hc BY2 HB2 HU2
      have hkz : (k : Int) + 0 < (s.size : Int) := by have := HM.out; omega
      have hkz0 : (k : Int) < (s.size : Int) := by have := HM.out; omega
      have hwk : wrap64 ((k : Int) + 0) = (k : Int) + 0 := Go.IntWalk.wrap64_in _ (by have := HM.out; omega)
      have hwk0 : wrap64 (k : Int) = (k : Int) := Go.IntWalk.wrap64_in _ (by have := HM.out; omega)
      have htn : ((k : Int) + 0).toNat = k + 0 := by omega
      go_wp2
      go_roundg (4 - (0 + 1))
      case measure => have := HK.out; omega
      case rel => exact ⟨0 + 1, ⟨by omega⟩, rfl, ⟨by rw [HU2.out]; exact BY2.out⟩, HB2⟩
    · have hc := BY.out.cell (k + 1) (by rw [bitsN_size]; have := HM.out; omega)
      have hfz := BY.out.frozen (k + 1) (by rw [bitsN_size]; have := HM.out; omega)
      have BY2 := Aside0.mk (BY.out.set (k + 1) (by rw [bitsN_size]; have := HM.out; omega) (Go.bits .xor .u8 ((bytesOf (bitsN s k mask 1)).getD (k + 1) 0) (mask / 256 % 256)) (u8_in _ _ _))
      have HB2 := Aside0.mk (HB.out.setCell (p := ⟨gy, k + 1, none⟩) HG1.out (.int .u8 (Go.bits .xor .u8 ((bytesOf (bitsN s k mask 1)).getD (k + 1) 0) (mask / 256 % 256))))
      have HU2 : Aside0 (bitsN s k mask (1 + 1) = XByR.setB (bitsN s k mask 1) (k + 1) (Go.bits .xor .u8 ((bytesOf (bitsN s k mask 1)).getD (k + 1) 0) (mask / 256 % 256))) := ⟨by show XByR.setB (bitsN s k mask 1) (k + 1) (Go.bits .xor .u8 ((bytesOf (bitsN s k mask 1)).getD (k + 1) 0) (mask / 2 ^ (8 * 1) % 256)) = _; simp⟩
      generalize hbu : bitsN s k mask 1 = u at hc BY2 HB2 HU2
      generalize (bytesOf u).getD (k + 1) 0 = c at hc BY2 HB2 HU2
      have hkz : (k : Int) + 1 < (s.size : Int) := by have := HM.out; omega
      have hkz0 : (k : Int) < (s.size : Int) := by have := HM.out; omega
      have hwk : wrap64 ((k : Int) + 1) = (k : Int) + 1 := Go.IntWalk.wrap64_in _ (by have := HM.out; omega)
      have hwk0 : wrap64 (k : Int) = (k : Int) := Go.IntWalk.wrap64_in _ (by have := HM.out; omega)
      have htn : ((k : Int) + 1).toNat = k + 1 := by omega
      go_wp2
      go_roundg (4 - (1 + 1))
      case measure => have := HK.out; omega
      case rel => exact ⟨1 + 1, ⟨by omega⟩, rfl, ⟨by rw [HU2.out]; exact BY2.out⟩, HB2⟩
    · have hc := BY.out.cell (k + 2) (by rw [bitsN_size]; have := HM.out; omega)
      have hfz := BY.out.frozen (k + 2) (by rw [bitsN_size]; have := HM.out; omega)
      have BY2 := Aside0.mk (BY.out.set (k + 2) (by rw [bitsN_size]; have := HM.out; omega) (Go.bits .xor .u8 ((bytesOf (bitsN s k mask 2)).getD (k + 2) 0) (mask / 65536 % 256)) (u8_in _ _ _))
      have HB2 := Aside0.mk (HB.out.setCell (p := ⟨gy, k + 2, none⟩) HG1.out (.int .u8 (Go.bits .xor .u8 ((bytesOf (bitsN s k mask 2)).getD (k + 2) 0) (mask / 65536 % 256))))
      have HU2 : Aside0 (bitsN s k mask (2 + 1) = XByR.setB (bitsN s k mask 2) (k + 2) (Go.bits .xor .u8 ((bytesOf (bitsN s k mask 2)).getD (k + 2) 0) (mask / 65536 % 256))) := ⟨by show XByR.setB (bitsN s k mask 2) (k + 2) (Go.bits .xor .u8 ((bytesOf (bitsN s k mask 2)).getD (k + 2) 0) (mask / 2 ^ (8 * 2) % 256)) = _; simp⟩
      generalize hbu : bitsN s k mask 2 = u at hc BY2 HB2 HU2
      generalize (bytesOf u).getD (k + 2) 0 = c at hc BY2 HB2 HU2
      have hkz : (k : Int) + 2 < (s.size : Int) := by have := HM.out; omega
      have hkz0 : (k : Int) < (s.size : Int) := by have := HM.out; omega
      have hwk : wrap64 ((k : Int) + 2) = (k : Int) + 2 := Go.IntWalk.wrap64_in _ (by have := HM.out; omega)
      have hwk0 : wrap64 (k : Int) = (k : Int) := Go.IntWalk.wrap64_in _ (by have := HM.out; omega)
      have htn : ((k : Int) + 2).toNat = k + 2 := by omega
      go_wp2
      go_roundg (4 - (2 + 1))
      case measure => have := HK.out; omega
      case rel => exact ⟨2 + 1, ⟨by omega⟩, rfl, ⟨by rw [HU2.out]; exact BY2.out⟩, HB2⟩
    · have hc := BY.out.cell (k + 3) (by rw [bitsN_size]; have := HM.out; omega)
      have hfz := BY.out.frozen (k + 3) (by rw [bitsN_size]; have := HM.out; omega)
      have BY2 := Aside0.mk (BY.out.set (k + 3) (by rw [bitsN_size]; have := HM.out; omega) (Go.bits .xor .u8 ((bytesOf (bitsN s k mask 3)).getD (k + 3) 0) (mask / 16777216 % 256)) (u8_in _ _ _))
      have HB2 := Aside0.mk (HB.out.setCell (p := ⟨gy, k + 3, none⟩) HG1.out (.int .u8 (Go.bits .xor .u8 ((bytesOf (bitsN s k mask 3)).getD (k + 3) 0) (mask / 16777216 % 256))))
      have HU2 : Aside0 (bitsN s k mask (3 + 1) = XByR.setB (bitsN s k mask 3) (k + 3) (Go.bits .xor .u8 ((bytesOf (bitsN s k mask 3)).getD (k + 3) 0) (mask / 16777216 % 256))) := ⟨by show XByR.setB (bitsN s k mask 3) (k + 3) (Go.bits .xor .u8 ((bytesOf (bitsN s k mask 3)).getD (k + 3) 0) (mask / 2 ^ (8 * 3) % 256)) = _; simp⟩
      generalize hbu : bitsN s k mask 3 = u at hc BY2 HB2 HU2
      generalize (bytesOf u).getD (k + 3) 0 = c at hc BY2 HB2 HU2
      have hkz : (k : Int) + 3 < (s.size : Int) := by have := HM.out; omega
      have hkz0 : (k : Int) < (s.size : Int) := by have := HM.out; omega
      have hwk : wrap64 ((k : Int) + 3) = (k : Int) + 3 := Go.IntWalk.wrap64_in _ (by have := HM.out; omega)
      have hwk0 : wrap64 (k : Int) = (k : Int) := Go.IntWalk.wrap64_in _ (by have := HM.out; omega)
      have htn : ((k : Int) + 3).toNat = k + 3 := by omega
      go_wp2
      go_roundg (4 - (3 + 1))
      case measure => have := HK.out; omega
      case rel => exact ⟨3 + 1, ⟨by omega⟩, rfl, ⟨by rw [HU2.out]; exact BY2.out⟩, HB2⟩
    · have hus : (bitsN s k mask 4).size = s.size := bitsN_size s k mask 4
      have hcv := fun c => BY.out.text (P := Tryd.prog) 31 9 Tryd.underlying31 Tryd.underlying5 Tryd.underlying9 c
      rw [hus] at hcv
      generalize hu : bitsN s k mask 4 = u at hcv hus HPx
      have hne : (crcV u == crcV s) = false := by simpa using HPx.out
      have hneq : (crcV u != crcV s) = true := by simpa using HPx.out
      have hnep : ¬ crcV u = crcV s := HPx.out
      have HC1 : Aside0 (digest_CRC.f u = some (crcV u)) := ⟨crc_val u (by rw [hus]; exact HZ.out)⟩
      have HC2 : Aside0 (digest_CRC.f s = some (crcV s)) := ⟨crc_val s HZ.out⟩
      generalize crcV u = cu at hne hneq hnep HC1
      generalize crcV s = cs at hne hneq hnep HC2
      clear HPx
      go_wp2_with (first
        | (go_at_call 9; with_reducible refine (digest_CRC.calls u cu wr HC1.out).mono ?_; rintro e w2 ⟨rfl, hb⟩; have HB2 := Aside0.mk (below_step HB.out hb); clear hb)
        | (go_at_call 9; with_reducible refine (digest_CRC.calls s cs w2 HC2.out).mono ?_; rintro e w3 ⟨rfl, hb⟩; have HB3 := Aside0.mk (below_step HB2.out hb); clear hb))
      go_ret
      exact ⟨by simp [hnep], HB3.out⟩

end Go.Proofs.YtjpcokifadaedaaDoor.X
