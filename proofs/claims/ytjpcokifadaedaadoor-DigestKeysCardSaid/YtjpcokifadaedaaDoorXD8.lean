import Derived.RangeFuncNested
import Derived.RangeFuncBound
import Derived.RangeFuncCalls
import Derived.RangeFuncLeaves
import Derived.Shelf.Abstract
import Derived.Shelf.RegionOpen
import Derived.WalkKit
import Derived.OwnWalkIn
import Derived.TacticsInMore
import Derived.LoopNIn
import Derived.LoopIn
import Derived.Lib.AppendZerosOnto
import Derived.Shelf.Spec.SlicesInsert
import Derived.Deep.RegionLaw
import Derived.WalkLawsBesides
import Derived.Recover
import Derived.Defers
import Derived.Test.YtjpcokifadaedaaDoorX0
import Derived.Test.YtjpcokifadaedaaDoorXOrow
import Derived.Outline
import Derived.Lib.Hide
import Derived.Laws.IdiomCopy
import Derived.Lib.SliceRun
import Derived.WalkSpells
import Derived.Test.YtjpcokifadaedaaDoorXD4
import Derived.Test.YtjpcokifadaedaaDoorXRegF
import Derived.Test.YtjpcokifadaedaaDoorXAp
namespace Go.Proofs.YtjpcokifadaedaaDoor.X
open Go.RowKit Go.Proofs.YtjpcokifadaedaaDoorW.PrintWords Go.Proofs.YtjpcokifadaedaaDoorW.PrintLast Go.Proofs.YtjpcokifadaedaaDoorW.PrintMore
set_option linter.unusedVariables false
set_option linter.unusedSimpArgs false
/-! ### tenancyref05_step: function 22: by hand -/
def rstepF (i : Nat) (b c d : Int) : Int × Nat :=
  if i < 16 then (Go.bits .or .u32 (Go.bits .and .u32 b c) (Go.bits .and .u32 (Go.bits .xor .u32 4294967295 b) d), i)
  else if i < 32 then (Go.bits .or .u32 (Go.bits .and .u32 d b) (Go.bits .and .u32 (Go.bits .xor .u32 4294967295 d) c), (5 * i + 1) % 16)
  else if i < 48 then (Go.bits .xor .u32 (Go.bits .xor .u32 b c) d, (3 * i + 5) % 16)
  else (Go.bits .xor .u32 c (Go.bits .or .u32 b (Go.bits .xor .u32 4294967295 d)), 7 * i % 16)
attribute [local go_sem] un_neg un_xor
set_option maxHeartbeats 4000000 in
set_option maxRecDepth 100000 in
theorem tenancyref05_step.calls (i : Nat) (hi : i < 64) (b c d : Int) (w : World) :
    Calls Tryd.prog 22 #[.int .i64 i, .int .u32 b, .int .u32 c, .int .u32 d] w fun e w' => e = .returned (.tuple #[.int .u32 (rstepF i b c d).1, .int .i64 ((rstepF i b c d).2 : Nat)]) ∧ Below w.heap.size w w' := by
  have hq : Int.tdiv (i : Int) 16 = ((i / 16 : Nat) : Int) := tdiv_nat i 16
  unfold rstepF
  by_cases h1 : i < 16
  · have hz : i / 16 = 0 := by omega
    rw [hz] at hq
    rw [if_pos h1]
    have HQ := Aside0.mk hq
    have hq0 : Int.tdiv (i : Int) 16 = 0 := hq
    clear hq
    go_enter Tryd.func22, Tryd.ntmps22
    go_wp2
    go_ret2
    exact ⟨rfl, Below.refl _ _⟩
  · rw [if_neg h1]
    by_cases h2 : i < 32
    · have hz : i / 16 = 1 := by omega
      rw [hz] at hq
      rw [if_pos h2]
      have hq0 : Int.tdiv (i : Int) 16 = 1 := hq
      have hr : Int.tmod (5 * (i : Int) + 1) 16 = (((5 * i + 1) % 16 : Nat) : Int) := tmod_nat (5 * i + 1) 16
      have w1 : wrap64 (5 * (i : Int)) = 5 * (i : Int) := Go.IntWalk.wrap64_in _ (by omega)
      have w2 : wrap64 (5 * (i : Int) + 1) = 5 * (i : Int) + 1 := Go.IntWalk.wrap64_in _ (by omega)
      clear hq
      go_enter Tryd.func22, Tryd.ntmps22
      go_wp2
      go_ret2
      exact ⟨rfl, Below.refl _ _⟩
    · rw [if_neg h2]
      by_cases h3 : i < 48
      · have hz : i / 16 = 2 := by omega
        rw [hz] at hq
        rw [if_pos h3]
        have hq0 : Int.tdiv (i : Int) 16 = 2 := hq
        have hr : Int.tmod (3 * (i : Int) + 5) 16 = (((3 * i + 5) % 16 : Nat) : Int) := tmod_nat (3 * i + 5) 16
        have w1 : wrap64 (3 * (i : Int)) = 3 * (i : Int) := Go.IntWalk.wrap64_in _ (by omega)
        have w2 : wrap64 (3 * (i : Int) + 5) = 3 * (i : Int) + 5 := Go.IntWalk.wrap64_in _ (by omega)
        clear hq
        go_enter Tryd.func22, Tryd.ntmps22
        go_wp2
        go_ret2
        exact ⟨rfl, Below.refl _ _⟩
      · rw [if_neg h3]
        have hz : i / 16 = 3 := by omega
        rw [hz] at hq
        have hq0 : Int.tdiv (i : Int) 16 = 3 := hq
        have hr : Int.tmod (7 * (i : Int)) 16 = (((7 * i) % 16 : Nat) : Int) := tmod_nat (7 * i) 16
        have w1 : wrap64 (7 * (i : Int)) = 7 * (i : Int) := Go.IntWalk.wrap64_in _ (by omega)
        clear hq
        go_enter Tryd.func22, Tryd.ntmps22
        go_wp2
        go_ret2
        exact ⟨rfl, Below.refl _ _⟩

/-! ### tenancyref05_text: function 21: by hand -/
def rpadN (s : ByteArray) : Nat → ByteArray
  | 0 => XAp.pushB s 128
  | n + 1 => XAp.pushB (rpadN s n) 0
theorem rpadN_size (s : ByteArray) : ∀ n, (rpadN s n).size = s.size + 1 + n
  | 0 => XAp.size_pushB s 128
  | n + 1 => by show (XAp.pushB (rpadN s n) 0).size = _; rw [XAp.size_pushB, rpadN_size s n]; rfl
def rlenN (t : ByteArray) (x : Int) : Nat → ByteArray
  | 0 => t
  | i + 1 => XAp.pushB (rlenN t x i) (x / 2 ^ (8 * i) % 256)
theorem rlenN_size (t : ByteArray) (x : Int) : ∀ n, (rlenN t x n).size = t.size + n
  | 0 => rfl
  | n + 1 => by show (XAp.pushB (rlenN t x n) _).size = _; rw [XAp.size_pushB, rlenN_size t x n]; rfl
def tenancyref05_text.f (s : ByteArray) : ByteArray := rlenN (rpadN s (md5Z s)) ((s.size : Int) * 8) 8
theorem infoU8 : ∃ i : TypeInfo, Tryd.prog.info? 5 = some i ∧ i.zero = some (.int .u8 0) ∧ i.size = 1 ∧ i.bytes = 1 := by
  have h : (Tryd.prog.info? 5).map (fun i => (i.zero, i.size, i.bytes)) = some (some (.int .u8 0), 1, 1) := by kernel_rfl
  obtain ⟨i, hi, he⟩ := Option.map_eq_some_iff.1 h
  simp only [Prod.mk.injEq] at he
  exact ⟨i, hi, he.1, he.2.1, he.2.2⟩
set_option maxHeartbeats 4000000 in
set_option maxRecDepth 100000 in
theorem tenancyref05_text.calls (s : ByteArray) (hs : s.size ≤ 140737488355000) (w : World) :
    Calls Tryd.prog 21 #[.string s] w fun e w' => ∃ v, e = .returned v ∧ XAp.BRow 5 w' w.heap.size v (tenancyref05_text.f s) ∧ Below w.heap.size w w' := by
  have HZ := Aside0.mk hs
  clear hs
  obtain ⟨i5, hi5, hz5, hs5, hb5⟩ := infoU8
  go_enter Tryd.func21, Tryd.ntmps21
  go_upto_region 2 with ((with_reducible refine gate_dst (N := 7) rfl ?_); refine XRun.convL_ 7 rfl rfl 9 31 5 Tryd.underlying9 Tryd.underlying31 Tryd.underlying5 s rfl (by first | rfl | (go_simp; done) | (go_simp; rfl)) ?_; refine ⟨_, rfl, ?_⟩)
  have BR := Aside0.mk (XAp.BRow.new w 5 s (by have := HZ.out; omega))
  have HB := Aside0.mk (bytes_below (Below.refl _ w) (Nat.le_refl _) 5 s)
  have HS := Aside0.mk (show s.size + 1 ≤ 140737488355328 by have := HZ.out; omega)
  generalize grownCap w s.size 0 5 = cc at BR ⊢
  generalize Lib.bytesWorld w 5 s = wy at BR HB ⊢
  generalize hv0 : Value.slice (some ⟨w.heap.size, 0, none⟩) s.size cc = v0 at BR ⊢
  go_upto_region 3 with ((with_reducible refine XAp.gate_append rfl ?_); refine XAp.appL_ 10 rfl rfl 31 rfl wy.heap.size 128 rfl rfl (BR.out.below (below_alloc (Below.refl _ wy) _)) i5 Tryd.underlying31 hi5 hz5 hs5 hb5 (blk_new wy _) (by decide) HS.out (Nat.le_trans HB.out.size (by rw [World.size_alloc]; omega)) ?_; intro v1 W1 hr1 hb1; have BR1 := Aside0.mk hr1; have HB1 := Aside0.mk ((below_alloc HB.out _).trans hb1); clear hr1 hb1)
  clear BR HB hv0
  go_loopg [3] (md5Z s) (fun gg s3 wr => ∃ (n g cap : Nat) (u : ByteArray), Aside0 (n ≤ md5Z s ∧ md5Z s - n ≤ gg) ∧ s3 = .slice (some ⟨g, 0, none⟩) u.size cap ∧ Aside0 (rpadN s n = u) ∧ Aside0 (XAp.BRow 5 wr w.heap.size (.slice (some ⟨g, 0, none⟩) u.size cap) u) ∧ Aside0 (Below w.heap.size w wr))
  case atStart =>
    obtain ⟨g, cap, rfl, _⟩ := BR1.out.is
    exact ⟨0, g, cap, _, ⟨Nat.zero_le _, Nat.le_refl _⟩, rfl, ⟨rfl⟩, BR1, HB1⟩
  case round =>
    clear BR1 HB1
    obtain ⟨n, g, cap, u, HK, rfl, HU, BR, HB⟩ := hrel
    have hus : u.size = s.size + 1 + n := by rw [← HU.out]; exact rpadN_size s n
    have hzd : md5Z s = (119 - s.size % 64) % 64 := rfl
    have HUS := Aside0.mk hus
    by_cases c : n < md5Z s
    · have hm : ¬ (u.size : Int) % 64 = 56 := by have := HK.out; omega
      have hm2 : ((u.size : Int) % 64 == 56) = false := by simpa using hm
      have hm3 : ((u.size : Int) % 64 != 56) = true := by simpa using hm
      have HC := Aside0.mk c
      have HS1 := Aside0.mk (show u.size + 1 ≤ 140737488355328 by have := HZ.out; omega)
      clear hus hzd c hm
      go_wp2_with ((with_reducible refine XAp.gate_append rfl ?_); refine XAp.appL_ 17 rfl rfl 31 rfl wr.heap.size 0 rfl rfl (BR.out.below (below_alloc (Below.refl _ wr) _)) i5 Tryd.underlying31 hi5 hz5 hs5 hb5 (blk_new wr _) (by decide) HS1.out (Nat.le_trans HB.out.size (by rw [World.size_alloc]; omega)) ?_; intro v1 W1 hr1 hb1; have BR1 := Aside0.mk hr1; have HB1 := Aside0.mk ((below_alloc HB.out _).trans hb1); clear hr1 hb1)
      obtain ⟨g1, cap1, rfl, _⟩ := BR1.out.is
      go_roundg (md5Z s - (n + 1))
      case measure => have := HK.out; have := HC.out; omega
      case rel => exact ⟨n + 1, g1, cap1, _, ⟨HC.out, Nat.le_refl _⟩, rfl, ⟨by show XAp.pushB (rpadN s n) 0 = _; rw [HU.out]⟩, BR1, HB1⟩
    · have hn : n = md5Z s := by have := HK.out; omega
      have hm : (u.size : Int) % 64 = 56 := by omega
      have HUS2 := Aside0.mk (show u.size = s.size + 1 + md5Z s by omega)
      have HP : Aside0 (rpadN s (md5Z s) = u) := ⟨hn ▸ HU.out⟩
      have HF : Aside0 (tenancyref05_text.f s = rlenN u ((s.size : Int) * 8) 8) := ⟨by rw [← HP.out]; rfl⟩
      have hu2 : (s.size : Int) % 18446744073709551616 = (s.size : Int) := Int.emod_eq_of_lt (by omega) (by have := HZ.out; omega)
      have hu3 : ((s.size : Int) * 8) % 18446744073709551616 = (s.size : Int) * 8 := Int.emod_eq_of_lt (by omega) (by have := HZ.out; omega)
      have HZ64 : Aside0 (md5Z s < 64) := ⟨Nat.mod_lt _ (by decide)⟩
      clear hus hzd c hn HU HUS HK
      generalize hx : (s.size : Int) * 8 = x at hu3 HF
      have HX0 : Aside0 (0 ≤ x) := ⟨by omega⟩
      go_upto_region 7 with fail
      try rw [hx]
      clear hx hu2 hu3 hm
      go_loopg [3, 5] 8 (fun gg s3 s5 wr2 => ∃ (i g cap : Nat) (u2 : ByteArray), Aside0 (i ≤ 8 ∧ 8 - i ≤ gg) ∧ s5 = .int .i64 i ∧ s3 = .slice (some ⟨g, 0, none⟩) u2.size cap ∧ Aside0 (rlenN u x i = u2) ∧ Aside0 (XAp.BRow 5 wr2 w.heap.size (.slice (some ⟨g, 0, none⟩) u2.size cap) u2) ∧ Aside0 (Below w.heap.size w wr2))
      case atStart => exact ⟨0, g, cap, u, ⟨by omega⟩, rfl, rfl, ⟨rfl⟩, BR, HB⟩
      case round =>
        clear BR HB
        obtain ⟨i, g2, cap2, u2, HK, rfl, rfl, HU, BR, HB⟩ := hrel
        have hus : u2.size = u.size + i := by rw [← HU.out]; exact rlenN_size u x i
        by_cases c : i < 8
        · have hlt : (i : Int) < 8 := by omega
          have HC := Aside0.mk c
          have HS1 := Aside0.mk (show u2.size + 1 ≤ 140737488355328 by have := HZ.out; have := HUS2.out; have := HZ64.out; omega)
          have hwm : wrap64 (8 * (i : Int)) = 8 * (i : Int) := Go.IntWalk.wrap64_in _ (by omega)
          have hmu : (8 * (i : Int)) % 18446744073709551616 = 8 * (i : Int) := Int.emod_eq_of_lt (by omega) (by omega)
          have hmu2 : IntKind.u64.wrap (8 * (i : Int)) = 8 * (i : Int) := by rw [IntKind.wrap_u64]; exact hmu
          have hbnd : 8 * (i : Int) < 64 := by omega
          have htn : (8 * (i : Int)).toNat = 8 * i := by omega
          clear hus c
          go_wp2_with ((with_reducible refine XAp.gate_append rfl ?_); refine XAp.appL_ 34 rfl rfl 31 rfl wr.heap.size (x / 2 ^ (8 * i) % 256) rfl rfl (BR.out.below (below_alloc (Below.refl _ wr) _)) i5 Tryd.underlying31 hi5 hz5 hs5 hb5 (blk_new wr _) (by have := HX0.out; exact ⟨Int.emod_nonneg _ (by decide), Int.emod_lt_of_pos _ (by decide)⟩) HS1.out (Nat.le_trans HB.out.size (by rw [World.size_alloc]; omega)) ?_; intro v1 W1 hr1 hb1; have BR1 := Aside0.mk hr1; have HB1 := Aside0.mk ((below_alloc HB.out _).trans hb1); clear hr1 hb1)
          obtain ⟨g1, cap1, rfl, _⟩ := BR1.out.is
          go_roundg (8 - (i + 1))
          case measure => have := HK.out; have := HC.out; omega
          case rel => exact ⟨i + 1, g1, cap1, _, ⟨HC.out, Nat.le_refl _⟩, rfl, rfl, ⟨by show XAp.pushB (rlenN u x i) _ = _; rw [HU.out]⟩, BR1, HB1⟩
        · obtain rfl : i = 8 := by have := HK.out; omega
          have hlt : ¬ ((8 : Int) < 8) := by omega
          clear hus c HK
          go_wp2
          go_ret
          exact ⟨_, rfl, by rw [HF.out, HU.out]; exact BR.out, HB.out⟩

/-! ### tenancyref05.MD5: the regions that draw: by hand -/
structure RGlob (w : World) : Prop where
  size : 1 < w.heap.size
  s : ∀ i, i < 64 → w.cell? ⟨0, i, none⟩ = some (.int .u32 (sinesL.getD i 0))
  t : ∀ i, i < 16 → w.cell? ⟨1, i, none⟩ = some (.int .u64 (turnsL.getD i 0 : Nat))
theorem RGlob.below {w w' : World} (h : RGlob w) (hb : Below w.heap.size w w') : RGlob w' :=
  ⟨Nat.lt_of_lt_of_le h.size hb.size, fun i hi => (hb.cell (p := ⟨0, i, none⟩) (by have := h.size; show 0 < _; omega)).trans (h.s i hi), fun i hi => (hb.cell (p := ⟨1, i, none⟩) h.size).trans (h.t i hi)⟩
def refWordV (gw g sz cap i q m at_ : Nat) (c : Int) (ws : List Int) : Nat → Value → World → Prop
  | 0, v, _ => v = .int .i64 i
  | 1, v, _ => v = .int .i64 q
  | 2, v, _ => v = .int .i64 i
  | 3, v, _ => v = .int .i64 q
  | 4, v, _ => v = .pointer (some ⟨gw, q, none⟩)
  | 5, v, _ => v = .int .u32 (ws.getD q 0)
  | 6, v, _ => v = .slice (some ⟨g, 0, none⟩) sz cap
  | 7, v, _ => v = .int .i64 at_
  | 8, v, _ => v = .int .i64 i
  | 9, v, _ => v = .int .i64 ((at_ + i : Nat) : Int)
  | 10, v, _ => v = .pointer (some ⟨g, at_ + i, none⟩)
  | 11, v, _ => v = .int .u8 c
  | 12, v, _ => v = .int .u32 c
  | 13, v, _ => v = .int .i64 i
  | 14, v, _ => v = .int .i64 m
  | 15, v, _ => v = .int .i64 ((8 * m : Nat) : Int)
  | 16, v, _ => v = .int .u64 ((8 * m : Nat) : Int)
  | 17, v, _ => v = .int .u32 (c * 2 ^ (8 * m) % 4294967296)
  | 18, v, _ => v = .int .u32 (((ws.getD q 0) + (c * 2 ^ (8 * m) % 4294967296)) % 4294967296)
  | 19, v, _ => v = .pointer (some ⟨gw, q, none⟩)
  | _, _, _ => True
set_option maxHeartbeats 4000000 in
set_option maxRecDepth 100000 in
theorem refWord (ops : Array Oper) (hops : ops = opsOf Tryd.f12 10) (id : Nat) (Q : Exit → Act → World → Prop) (act : Act) (w : World) (hsz0 : act.tmps.size = 147) (gw g sz cap i q m at_ : Nat) (c : Int) (ws : List Int) (B : Nat) (u : ByteArray)
    (h3 : act.eval (.tmp 3) = .slice (some ⟨g, 0, none⟩) sz cap) (h5 : act.eval (.tmp 5) = .int .i64 at_) (h6 : act.eval (.tmp 6) = .pointer (some ⟨gw, 0, none⟩)) (h7 : act.eval (.tmp 7) = .int .i64 i)
    (bw : w.heap[gw]? = some (.cells (wc ws) 48 (0, 0))) (hwl : ws.length = 16) (br : XAp.BRow 5 w B (.slice (some ⟨g, 0, none⟩) sz cap) u) (hsz : u.size = sz) (hi64 : i < 64) (hai : at_ + i < sz) (hszl : sz ≤ 140737488355328)
    (hq : Int.tdiv (i : Int) 4 = (q : Int)) (hq16 : q < 16) (hm : Int.tmod (i : Int) 4 = (m : Int)) (hm4 : m < 4) (hci : (bytesOf u).getD (at_ + i) 0 = c) (hcm : c % 4294967296 = c)
    (hK : ∀ (a2 : Tmp → Value) (W : World), W.heap[gw]? = some (.cells (wc (ws.set q (((ws.getD q 0) + (c * 2 ^ (8 * m) % 4294967296)) % 4294967296))) 48 (0, 0)) → (∀ n, n ≤ gw → Below n w W) → (∀ k, k < w.heap.size → k ≠ gw → W.heap[k]? = w.heap[k]?) → Q .normal (XReg.fills a2 [33, 34, 35, 36, 37, 38, 39, 40, 41, 42, 43, 44, 45, 46, 47, 48, 49, 50, 51, 52] act) W) :
    (Code.region id ops true).wp Tryd.prog Q act w := by
  subst hops
  refine (wpIn_wide (n := 9)).1 (XReg.region_runD (by kernel_rfl) 20 (by rw [hsz0]; kernel_rfl) (refWordV gw g sz cap i q m at_ c ws)
    (fun w' => Below w.heap.size w w') ?_ (fun w1 w2 h1 h2 => below_step h1 h2) ((Below.refl _ w).drew) ?_ ?_)
  · intro i v w1 w2 hv hb
    match i, hv with
    | 0, hv | 1, hv | 2, hv | 3, hv | 4, hv | 5, hv | 6, hv | 7, hv | 8, hv | 9, hv | 10, hv | 11, hv | 12, hv | 13, hv | 14, hv | 15, hv | 16, hv | 17, hv | 18, hv | 19, hv => exact hv
    | _ + 20, _ => trivial
  · intro i o a' w' hi ho hB hdf hr hd
    have cw := blk_below bw hB
    have cb := br.below hB
    have hcases : i = 0 ∨ i = 1 ∨ i = 2 ∨ i = 3 ∨ i = 4 ∨ i = 5 ∨ i = 6 ∨ i = 7 ∨ i = 8 ∨ i = 9 ∨ i = 10 ∨ i = 11 ∨ i = 12 ∨ i = 13 ∨ i = 14 ∨ i = 15 ∨ i = 16 ∨ i = 17 ∨ i = 18 ∨ i = 19 := by omega
    rcases hcases with rfl | rfl | rfl | rfl | rfl | rfl | rfl | rfl | rfl | rfl | rfl | rfl | rfl | rfl | rfl | rfl | rfl | rfl | rfl | rfl
    · obtain ⟨hop, hdst⟩ := XReg.op_is (x := .move (.tmp 7)) (d := some 33) ho (by kernel_rfl)
      have e0 := (hr 7 (by kernel_rfl)).trans h7
      refine XReg.val_ (v := .int .i64 i) (w1 := w') (by rw [hop]; intro c h; cases h) (by simp [Oper.about, hop]) ?_ ⟨_, rfl, Below.refl _ _, rfl⟩
      unfold execOp
      rw [hop]
      clear hr hd hB
      generalize a'.eval = ρ at e0 ⊢
      go_simp
    · obtain ⟨hop, hdst⟩ := XReg.op_is (x := .binOp .quo 3 (.tmp 33) (.const (.int .i64 4)) 3) (d := some 34) ho (by kernel_rfl)
      have e0 : a'.eval (.tmp 33) = .int .i64 i := hd 0 33 (by kernel_rfl) (by omega)
      have e9 : a'.eval (.const (.int .i64 4)) = .int .i64 4 := rfl
      refine XReg.val_ (v := .int .i64 q) (w1 := w') (by rw [hop]; intro c h; cases h) (by simp [Oper.about, hop]) ?_ ⟨_, rfl, Below.refl _ _, rfl⟩
      unfold execOp
      rw [hop]
      clear hr hd hB
      clear cb br
      generalize a'.eval = ρ at e0 e9 ⊢
      go_simp
      exact Go.IntWalk.i64_in (q : Int) (by omega)
    · obtain ⟨hop, hdst⟩ := XReg.op_is (x := .move (.tmp 7)) (d := some 35) ho (by kernel_rfl)
      have e0 := (hr 7 (by kernel_rfl)).trans h7
      refine XReg.val_ (v := .int .i64 i) (w1 := w') (by rw [hop]; intro c h; cases h) (by simp [Oper.about, hop]) ?_ ⟨_, rfl, Below.refl _ _, rfl⟩
      unfold execOp
      rw [hop]
      clear hr hd hB
      generalize a'.eval = ρ at e0 ⊢
      go_simp
    · obtain ⟨hop, hdst⟩ := XReg.op_is (x := .binOp .quo 3 (.tmp 35) (.const (.int .i64 4)) 3) (d := some 36) ho (by kernel_rfl)
      have e0 : a'.eval (.tmp 35) = .int .i64 i := hd 2 35 (by kernel_rfl) (by omega)
      have e9 : a'.eval (.const (.int .i64 4)) = .int .i64 4 := rfl
      refine XReg.val_ (v := .int .i64 q) (w1 := w') (by rw [hop]; intro c h; cases h) (by simp [Oper.about, hop]) ?_ ⟨_, rfl, Below.refl _ _, rfl⟩
      unfold execOp
      rw [hop]
      clear hr hd hB
      clear cb br
      generalize a'.eval = ρ at e0 e9 ⊢
      go_simp
      exact Go.IntWalk.i64_in (q : Int) (by omega)
    · obtain ⟨hop, hdst⟩ := XReg.op_is (x := .indexAddr 48 (.tmp 6) (.tmp 36)) (d := some 37) ho (by kernel_rfl)
      have e0 := (hr 6 (by kernel_rfl)).trans h6
      have e1 : a'.eval (.tmp 36) = .int .i64 q := hd 3 36 (by kernel_rfl) (by omega)
      have hu48 := Tryd.underlying48
      have hi4z : (q : Int) < 16 := by omega
      refine XReg.val_ (v := .pointer (some ⟨gw, q, none⟩)) (w1 := w') (by rw [hop]; intro c h; cases h) (by simp [Oper.about, hop]) ?_ ⟨_, rfl, Below.refl _ _, rfl⟩
      unfold execOp
      rw [hop]
      clear hr hd hB
      clear cb br
      generalize a'.eval = ρ at e0 e1 ⊢
      go_simp
    · obtain ⟨hop, hdst⟩ := XReg.op_is (x := .load 23 (.tmp 37)) (d := some 38) ho (by kernel_rfl)
      have e0 : a'.eval (.tmp 37) = .pointer (some ⟨gw, q, none⟩) := hd 4 37 (by kernel_rfl) (by omega)
      have hc : w'.cell? ⟨gw, q, none⟩ = some (.int .u32 (ws.getD q 0)) := (blk_cell cw q).trans (wc_get (by omega))
      have hu23 := Tryd.underlying23
      refine XReg.val_ (v := .int .u32 (ws.getD q 0)) (w1 := w') (by rw [hop]; intro c h; cases h) (by simp [Oper.about, hop]) ?_ ⟨_, rfl, Below.refl _ _, rfl⟩
      unfold execOp
      rw [hop]
      clear hr hd hB
      clear cb br
      generalize a'.eval = ρ at e0 ⊢
      go_simp
    · obtain ⟨hop, hdst⟩ := XReg.op_is (x := .move (.tmp 3)) (d := some 39) ho (by kernel_rfl)
      have e0 := (hr 3 (by kernel_rfl)).trans h3
      refine XReg.val_ (v := .slice (some ⟨g, 0, none⟩) sz cap) (w1 := w') (by rw [hop]; intro c h; cases h) (by simp [Oper.about, hop]) ?_ ⟨_, rfl, Below.refl _ _, rfl⟩
      unfold execOp
      rw [hop]
      clear hr hd hB
      generalize a'.eval = ρ at e0 ⊢
      go_simp
    · obtain ⟨hop, hdst⟩ := XReg.op_is (x := .move (.tmp 5)) (d := some 40) ho (by kernel_rfl)
      have e0 := (hr 5 (by kernel_rfl)).trans h5
      refine XReg.val_ (v := .int .i64 at_) (w1 := w') (by rw [hop]; intro c h; cases h) (by simp [Oper.about, hop]) ?_ ⟨_, rfl, Below.refl _ _, rfl⟩
      unfold execOp
      rw [hop]
      clear hr hd hB
      generalize a'.eval = ρ at e0 ⊢
      go_simp
    · obtain ⟨hop, hdst⟩ := XReg.op_is (x := .move (.tmp 7)) (d := some 41) ho (by kernel_rfl)
      have e0 := (hr 7 (by kernel_rfl)).trans h7
      refine XReg.val_ (v := .int .i64 i) (w1 := w') (by rw [hop]; intro c h; cases h) (by simp [Oper.about, hop]) ?_ ⟨_, rfl, Below.refl _ _, rfl⟩
      unfold execOp
      rw [hop]
      clear hr hd hB
      generalize a'.eval = ρ at e0 ⊢
      go_simp
    · obtain ⟨hop, hdst⟩ := XReg.op_is (x := .binOp .add 3 (.tmp 40) (.tmp 41) 3) (d := some 42) ho (by kernel_rfl)
      have e0 : a'.eval (.tmp 40) = .int .i64 at_ := hd 7 40 (by kernel_rfl) (by omega)
      have e1 : a'.eval (.tmp 41) = .int .i64 i := hd 8 41 (by kernel_rfl) (by omega)
      refine XReg.val_ (v := .int .i64 ((at_ + i : Nat) : Int)) (w1 := w') (by rw [hop]; intro c h; cases h) (by simp [Oper.about, hop]) ?_ ⟨_, rfl, Below.refl _ _, rfl⟩
      unfold execOp
      rw [hop]
      clear hr hd hB
      clear cb br
      generalize a'.eval = ρ at e0 e1 ⊢
      go_simp
      exact Go.IntWalk.i64_in ((at_ : Int) + (i : Int)) (by omega)
    · obtain ⟨hop, hdst⟩ := XReg.op_is (x := .indexAddr 31 (.tmp 39) (.tmp 42)) (d := some 43) ho (by kernel_rfl)
      have e0 : a'.eval (.tmp 39) = .slice (some ⟨g, 0, none⟩) sz cap := hd 6 39 (by kernel_rfl) (by omega)
      have e1 : a'.eval (.tmp 42) = .int .i64 ((at_ + i : Nat) : Int) := hd 9 42 (by kernel_rfl) (by omega)
      have hu31 := Tryd.underlying31
      have hiz : (at_ : Int) + (i : Int) < (sz : Int) := by omega
      have hi0 : (0 : Int) ≤ (at_ : Int) + (i : Int) := by omega
      have htn : ((at_ : Int) + (i : Int)).toNat = at_ + i := by omega
      refine XReg.val_ (v := .pointer (some ⟨g, at_ + i, none⟩)) (w1 := w') (by rw [hop]; intro c h; cases h) (by simp [Oper.about, hop]) ?_ ⟨_, rfl, Below.refl _ _, rfl⟩
      unfold execOp
      rw [hop]
      clear hr hd hB
      clear cb br
      generalize a'.eval = ρ at e0 e1 ⊢
      go_simp
    · obtain ⟨hop, hdst⟩ := XReg.op_is (x := .load 5 (.tmp 43)) (d := some 44) ho (by kernel_rfl)
      have e0 : a'.eval (.tmp 43) = .pointer (some ⟨g, at_ + i, none⟩) := hd 10 43 (by kernel_rfl) (by omega)
      have hc : w'.cell? ⟨g, at_ + i, none⟩ = some (.int .u8 c) := hci ▸ cb.cell (at_ + i) (by omega)
      have hu5 := Tryd.underlying5
      refine XReg.val_ (v := .int .u8 c) (w1 := w') (by rw [hop]; intro c h; cases h) (by simp [Oper.about, hop]) ?_ ⟨_, rfl, Below.refl _ _, rfl⟩
      unfold execOp
      rw [hop]
      clear hr hd hB
      clear cb br
      clear hci
      generalize a'.eval = ρ at e0 ⊢
      go_simp
    · obtain ⟨hop, hdst⟩ := XReg.op_is (x := .convert 5 23 (.tmp 44)) (d := some 45) ho (by kernel_rfl)
      have e0 : a'.eval (.tmp 44) = .int .u8 c := hd 11 44 (by kernel_rfl) (by omega)
      have hu5 := Tryd.underlying5
      have hu23 := Tryd.underlying23
      refine XReg.val_ (v := .int .u32 c) (w1 := w') (by rw [hop]; intro c h; cases h) (by simp [Oper.about, hop]) ?_ ⟨_, rfl, Below.refl _ _, rfl⟩
      unfold execOp
      rw [hop]
      clear hr hd hB
      clear cb br
      generalize a'.eval = ρ at e0 ⊢
      go_simp
      rw [IntKind.wrap_u32]
      exact hcm
    · obtain ⟨hop, hdst⟩ := XReg.op_is (x := .move (.tmp 7)) (d := some 46) ho (by kernel_rfl)
      have e0 := (hr 7 (by kernel_rfl)).trans h7
      refine XReg.val_ (v := .int .i64 i) (w1 := w') (by rw [hop]; intro c h; cases h) (by simp [Oper.about, hop]) ?_ ⟨_, rfl, Below.refl _ _, rfl⟩
      unfold execOp
      rw [hop]
      clear hr hd hB
      generalize a'.eval = ρ at e0 ⊢
      go_simp
    · obtain ⟨hop, hdst⟩ := XReg.op_is (x := .binOp .rem 3 (.tmp 46) (.const (.int .i64 4)) 3) (d := some 47) ho (by kernel_rfl)
      have e0 : a'.eval (.tmp 46) = .int .i64 i := hd 13 46 (by kernel_rfl) (by omega)
      have e9 : a'.eval (.const (.int .i64 4)) = .int .i64 4 := rfl
      refine XReg.val_ (v := .int .i64 m) (w1 := w') (by rw [hop]; intro c h; cases h) (by simp [Oper.about, hop]) ?_ ⟨_, rfl, Below.refl _ _, rfl⟩
      unfold execOp
      rw [hop]
      clear hr hd hB
      clear cb br
      generalize a'.eval = ρ at e0 e9 ⊢
      go_simp
    · obtain ⟨hop, hdst⟩ := XReg.op_is (x := .binOp .mul 3 (.const (.int .i64 8)) (.tmp 47) 3) (d := some 48) ho (by kernel_rfl)
      have e0 : a'.eval (.tmp 47) = .int .i64 m := hd 14 47 (by kernel_rfl) (by omega)
      have e9 : a'.eval (.const (.int .i64 8)) = .int .i64 8 := rfl
      refine XReg.val_ (v := .int .i64 ((8 * m : Nat) : Int)) (w1 := w') (by rw [hop]; intro c h; cases h) (by simp [Oper.about, hop]) ?_ ⟨_, rfl, Below.refl _ _, rfl⟩
      unfold execOp
      rw [hop]
      clear hr hd hB
      clear cb br
      generalize a'.eval = ρ at e0 e9 ⊢
      go_simp
      exact Go.IntWalk.i64_in (8 * (m : Int)) (by omega)
    · obtain ⟨hop, hdst⟩ := XReg.op_is (x := .convert 3 30 (.tmp 48)) (d := some 49) ho (by kernel_rfl)
      have e0 : a'.eval (.tmp 48) = .int .i64 ((8 * m : Nat) : Int) := hd 15 48 (by kernel_rfl) (by omega)
      have hu3 := Tryd.underlying3
      have hu30 := Tryd.underlying30
      refine XReg.val_ (v := .int .u64 ((8 * m : Nat) : Int)) (w1 := w') (by rw [hop]; intro c h; cases h) (by simp [Oper.about, hop]) ?_ ⟨_, rfl, Below.refl _ _, rfl⟩
      unfold execOp
      rw [hop]
      clear hr hd hB
      clear cb br
      generalize a'.eval = ρ at e0 ⊢
      go_simp
      rw [IntKind.wrap_u64]
      exact Int.emod_eq_of_lt (by omega) (by omega)
    · obtain ⟨hop, hdst⟩ := XReg.op_is (x := .binOp .shl 23 (.tmp 45) (.tmp 49) 30) (d := some 50) ho (by kernel_rfl)
      have e0 : a'.eval (.tmp 45) = .int .u32 c := hd 12 45 (by kernel_rfl) (by omega)
      have e1 : a'.eval (.tmp 49) = .int .u64 ((8 * m : Nat) : Int) := hd 16 49 (by kernel_rfl) (by omega)
      refine XReg.val_ (v := .int .u32 (c * 2 ^ (8 * m) % 4294967296)) (w1 := w') (by rw [hop]; intro c h; cases h) (by simp [Oper.about, hop]) ?_ ⟨_, rfl, Below.refl _ _, rfl⟩
      unfold execOp
      rw [hop]
      clear hr hd hB
      clear cb br
      generalize a'.eval = ρ at e0 e1 ⊢
      go_simp
      rw [IntKind.wrap_u32, show (8 * (m : Int)).toNat = 8 * m by omega]
    · obtain ⟨hop, hdst⟩ := XReg.op_is (x := .binOp .add 23 (.tmp 38) (.tmp 50) 23) (d := some 51) ho (by kernel_rfl)
      have e0 : a'.eval (.tmp 38) = .int .u32 (ws.getD q 0) := hd 5 38 (by kernel_rfl) (by omega)
      have e1 : a'.eval (.tmp 50) = .int .u32 (c * 2 ^ (8 * m) % 4294967296) := hd 17 50 (by kernel_rfl) (by omega)
      refine XReg.val_ (v := .int .u32 (((ws.getD q 0) + (c * 2 ^ (8 * m) % 4294967296)) % 4294967296)) (w1 := w') (by rw [hop]; intro c h; cases h) (by simp [Oper.about, hop]) ?_ ⟨_, rfl, Below.refl _ _, rfl⟩
      unfold execOp
      rw [hop]
      clear hr hd hB
      clear cb br
      generalize a'.eval = ρ at e0 e1 ⊢
      go_simp
      rw [IntKind.wrap_u32]
      generalize c * 2 ^ (8 * m) = z
      omega
    · obtain ⟨hop, hdst⟩ := XReg.op_is (x := .indexAddr 48 (.tmp 6) (.tmp 34)) (d := some 52) ho (by kernel_rfl)
      have e0 := (hr 6 (by kernel_rfl)).trans h6
      have e1 : a'.eval (.tmp 34) = .int .i64 q := hd 1 34 (by kernel_rfl) (by omega)
      have hu48 := Tryd.underlying48
      have hi4z : (q : Int) < 16 := by omega
      refine XReg.val_ (v := .pointer (some ⟨gw, q, none⟩)) (w1 := w') (by rw [hop]; intro c h; cases h) (by simp [Oper.about, hop]) ?_ ⟨_, rfl, Below.refl _ _, rfl⟩
      unfold execOp
      rw [hop]
      clear hr hd hB
      clear cb br
      generalize a'.eval = ρ at e0 e1 ⊢
      go_simp
  · intro o a' w' ho hB hdf hsz' hr hd
    have cw := blk_below bw hB
    have cb := br.below hB
    have hfill := XReg.fill_eq [33, 34, 35, 36, 37, 38, 39, 40, 41, 42, 43, 44, 45, 46, 47, 48, 49, 50, 51, 52] hsz' hdf (XReg.rest_of (ops := opsOf Tryd.f12 10) (m := 20) (by kernel_rfl) hr)
    obtain ⟨hop, hdst⟩ := XReg.op_is (x := .store 23 (.tmp 52) (.tmp 51)) (d := none) ho (by kernel_rfl)
    have e0 : a'.eval (.tmp 52) = .pointer (some ⟨gw, q, none⟩) := hd 19 52 (by kernel_rfl) (by omega)
    have e1 : a'.eval (.tmp 51) = .int .u32 (((ws.getD q 0) + (c * 2 ^ (8 * m) % 4294967296)) % 4294967296) := hd 18 51 (by kernel_rfl) (by omega)
    have hc : w'.cell? ⟨gw, q, none⟩ = some (.int .u32 (ws.getD q 0)) := (blk_cell cw q).trans (wc_get (by omega))
    have hkk := hK (fun d => a'.eval (.tmp d)) (w'.setCell ⟨gw, q, none⟩ (.int .u32 (((ws.getD q 0) + (c * 2 ^ (8 * m) % 4294967296)) % 4294967296))) (blk_put cw _ _ (wc_set _ _ _)) (fun n hn => (hB.mono (Nat.le_trans hn (Nat.le_of_lt (blk_lt bw)))).setCell hn _) (fun k hk hne => (Below.heap_setCell _ _ _ _ hne).trans (hB.block k hk))
    rw [← hfill] at hkk
    refine XReg.skip_ (w1 := w'.setCell ⟨gw, q, none⟩ (.int .u32 (((ws.getD q 0) + (c * 2 ^ (8 * m) % 4294967296)) % 4294967296))) (by rw [hop]; intro c h; cases h) (by simp [Oper.about, hop]) ?_ (by rw [hdst]; exact hkk)
    unfold execOp
    rw [hop]
    clear hr hd hB hfill hkk cb br
    have hu23 := Tryd.underlying23
    have hfz : w'.frozen? ⟨gw, q, none⟩ = false := by simp [World.frozen?, cw]
    generalize a'.eval = ρ at e0 e1 ⊢
    go_simp
def refSumV (gw i k : Nat) (a f : Int) (ws : List Int) : Nat → Value → World → Prop
  | 0, v, _ => v = .int .u32 a
  | 1, v, _ => v = .int .u32 f
  | 2, v, _ => v = .int .u32 ((a + f) % 4294967296)
  | 3, v, _ => v = .int .i64 k
  | 4, v, _ => v = .pointer (some ⟨gw, k, none⟩)
  | 5, v, _ => v = .int .u32 (ws.getD k 0)
  | 6, v, _ => v = .int .u32 ((((a + f) % 4294967296) + ws.getD k 0) % 4294967296)
  | 7, v, _ => v = .int .i64 i
  | 8, v, _ => v = .pointer (some ⟨0, i, none⟩)
  | 9, v, _ => v = .int .u32 (sinesL.getD i 0)
  | 10, v, _ => v = .int .u32 ((((((a + f) % 4294967296) + ws.getD k 0) % 4294967296) + sinesL.getD i 0) % 4294967296)
  | _, _, _ => True
set_option maxHeartbeats 4000000 in
set_option maxRecDepth 100000 in
theorem refSum (ops : Array Oper) (hops : ops = opsOf Tryd.f12 19) (id : Nat) (Q : Exit → Act → World → Prop) (act : Act) (w : World) (hsz0 : act.tmps.size = 147) (gw i k : Nat) (a f : Int) (ws : List Int)
    (h6 : act.eval (.tmp 6) = .pointer (some ⟨gw, 0, none⟩)) (h8 : act.eval (.tmp 8) = .int .u32 a) (h12 : act.eval (.tmp 12) = .int .i64 i) (h13 : act.eval (.tmp 13) = .int .u32 f) (h14 : act.eval (.tmp 14) = .int .i64 k)
    (bw : w.heap[gw]? = some (.cells (wc ws) 48 (0, 0))) (hwl : ws.length = 16) (gl : RGlob w) (hi64 : i < 64) (hk16 : k < 16)
    (hK : ∀ (u : Tmp → Value) (W : World), Below w.heap.size w W → Q .normal ((XReg.fills u [73, 74, 75, 76, 77, 78, 79, 80, 81, 82, 83] act).put (some 15) (.int .u32 ((((((a + f) % 4294967296) + ws.getD k 0) % 4294967296) + sinesL.getD i 0) % 4294967296))) W) :
    (Code.region id ops true).wp Tryd.prog Q act w := by
  subst hops
  refine (wpIn_wide (n := 9)).1 (XReg.region_runD (by kernel_rfl) 11 (by rw [hsz0]; kernel_rfl) (refSumV gw i k a f ws)
    (fun w' => Below w.heap.size w w') ?_ (fun w1 w2 h1 h2 => below_step h1 h2) ((Below.refl _ w).drew) ?_ ?_)
  · intro i v w1 w2 hv hb
    match i, hv with
    | 0, hv | 1, hv | 2, hv | 3, hv | 4, hv | 5, hv | 6, hv | 7, hv | 8, hv | 9, hv | 10, hv => exact hv
    | _ + 11, _ => trivial
  · intro i o a' w' hi ho hB hdf hr hd
    have cw := blk_below bw hB
    have cg := gl.below hB
    have hcases : i = 0 ∨ i = 1 ∨ i = 2 ∨ i = 3 ∨ i = 4 ∨ i = 5 ∨ i = 6 ∨ i = 7 ∨ i = 8 ∨ i = 9 ∨ i = 10 := by omega
    rcases hcases with rfl | rfl | rfl | rfl | rfl | rfl | rfl | rfl | rfl | rfl | rfl
    · obtain ⟨hop, hdst⟩ := XReg.op_is (x := .move (.tmp 8)) (d := some 73) ho (by kernel_rfl)
      have e0 := (hr 8 (by kernel_rfl)).trans h8
      refine XReg.val_ (v := .int .u32 a) (w1 := w') (by rw [hop]; intro c h; cases h) (by simp [Oper.about, hop]) ?_ ⟨_, rfl, Below.refl _ _, rfl⟩
      unfold execOp
      rw [hop]
      clear hr hd hB
      generalize a'.eval = ρ at e0 ⊢
      go_simp
    · obtain ⟨hop, hdst⟩ := XReg.op_is (x := .move (.tmp 13)) (d := some 74) ho (by kernel_rfl)
      have e0 := (hr 13 (by kernel_rfl)).trans h13
      refine XReg.val_ (v := .int .u32 f) (w1 := w') (by rw [hop]; intro c h; cases h) (by simp [Oper.about, hop]) ?_ ⟨_, rfl, Below.refl _ _, rfl⟩
      unfold execOp
      rw [hop]
      clear hr hd hB
      generalize a'.eval = ρ at e0 ⊢
      go_simp
    · obtain ⟨hop, hdst⟩ := XReg.op_is (x := .binOp .add 23 (.tmp 73) (.tmp 74) 23) (d := some 75) ho (by kernel_rfl)
      have e0 : a'.eval (.tmp 73) = .int .u32 a := hd 0 73 (by kernel_rfl) (by omega)
      have e1 : a'.eval (.tmp 74) = .int .u32 f := hd 1 74 (by kernel_rfl) (by omega)
      refine XReg.val_ (v := .int .u32 ((a + f) % 4294967296)) (w1 := w') (by rw [hop]; intro c h; cases h) (by simp [Oper.about, hop]) ?_ ⟨_, rfl, Below.refl _ _, rfl⟩
      unfold execOp
      rw [hop]
      clear hr hd hB
      clear cg gl
      generalize a'.eval = ρ at e0 e1 ⊢
      go_simp
      rw [IntKind.wrap_u32]
    · obtain ⟨hop, hdst⟩ := XReg.op_is (x := .move (.tmp 14)) (d := some 76) ho (by kernel_rfl)
      have e0 := (hr 14 (by kernel_rfl)).trans h14
      refine XReg.val_ (v := .int .i64 k) (w1 := w') (by rw [hop]; intro c h; cases h) (by simp [Oper.about, hop]) ?_ ⟨_, rfl, Below.refl _ _, rfl⟩
      unfold execOp
      rw [hop]
      clear hr hd hB
      generalize a'.eval = ρ at e0 ⊢
      go_simp
    · obtain ⟨hop, hdst⟩ := XReg.op_is (x := .indexAddr 48 (.tmp 6) (.tmp 76)) (d := some 77) ho (by kernel_rfl)
      have e0 := (hr 6 (by kernel_rfl)).trans h6
      have e1 : a'.eval (.tmp 76) = .int .i64 k := hd 3 76 (by kernel_rfl) (by omega)
      have hu48 := Tryd.underlying48
      have hi4z : (k : Int) < 16 := by omega
      refine XReg.val_ (v := .pointer (some ⟨gw, k, none⟩)) (w1 := w') (by rw [hop]; intro c h; cases h) (by simp [Oper.about, hop]) ?_ ⟨_, rfl, Below.refl _ _, rfl⟩
      unfold execOp
      rw [hop]
      clear hr hd hB
      clear cg gl
      generalize a'.eval = ρ at e0 e1 ⊢
      go_simp
    · obtain ⟨hop, hdst⟩ := XReg.op_is (x := .load 23 (.tmp 77)) (d := some 78) ho (by kernel_rfl)
      have e0 : a'.eval (.tmp 77) = .pointer (some ⟨gw, k, none⟩) := hd 4 77 (by kernel_rfl) (by omega)
      have hc : w'.cell? ⟨gw, k, none⟩ = some (.int .u32 (ws.getD k 0)) := (blk_cell cw k).trans (wc_get (by omega))
      have hu23 := Tryd.underlying23
      refine XReg.val_ (v := .int .u32 (ws.getD k 0)) (w1 := w') (by rw [hop]; intro c h; cases h) (by simp [Oper.about, hop]) ?_ ⟨_, rfl, Below.refl _ _, rfl⟩
      unfold execOp
      rw [hop]
      clear hr hd hB
      clear cg gl
      generalize a'.eval = ρ at e0 ⊢
      go_simp
    · obtain ⟨hop, hdst⟩ := XReg.op_is (x := .binOp .add 23 (.tmp 75) (.tmp 78) 23) (d := some 79) ho (by kernel_rfl)
      have e0 : a'.eval (.tmp 75) = .int .u32 ((a + f) % 4294967296) := hd 2 75 (by kernel_rfl) (by omega)
      have e1 : a'.eval (.tmp 78) = .int .u32 (ws.getD k 0) := hd 5 78 (by kernel_rfl) (by omega)
      refine XReg.val_ (v := .int .u32 ((((a + f) % 4294967296) + ws.getD k 0) % 4294967296)) (w1 := w') (by rw [hop]; intro c h; cases h) (by simp [Oper.about, hop]) ?_ ⟨_, rfl, Below.refl _ _, rfl⟩
      unfold execOp
      rw [hop]
      clear hr hd hB
      clear cg gl
      generalize a'.eval = ρ at e0 e1 ⊢
      go_simp
      rw [IntKind.wrap_u32]
      omega
    · obtain ⟨hop, hdst⟩ := XReg.op_is (x := .move (.tmp 12)) (d := some 80) ho (by kernel_rfl)
      have e0 := (hr 12 (by kernel_rfl)).trans h12
      refine XReg.val_ (v := .int .i64 i) (w1 := w') (by rw [hop]; intro c h; cases h) (by simp [Oper.about, hop]) ?_ ⟨_, rfl, Below.refl _ _, rfl⟩
      unfold execOp
      rw [hop]
      clear hr hd hB
      generalize a'.eval = ρ at e0 ⊢
      go_simp
    · obtain ⟨hop, hdst⟩ := XReg.op_is (x := .indexAddr 51 (.global 0) (.tmp 80)) (d := some 81) ho (by kernel_rfl)
      have e0 : a'.eval (.global 0) = .pointer (some ⟨0, 0, none⟩) := rfl
      have e1 : a'.eval (.tmp 80) = .int .i64 i := hd 7 80 (by kernel_rfl) (by omega)
      have hu51 := Tryd.underlying51
      have hi4z : (i : Int) < 64 := by omega
      refine XReg.val_ (v := .pointer (some ⟨0, i, none⟩)) (w1 := w') (by rw [hop]; intro c h; cases h) (by simp [Oper.about, hop]) ?_ ⟨_, rfl, Below.refl _ _, rfl⟩
      unfold execOp
      rw [hop]
      clear hr hd hB
      clear cg gl
      generalize a'.eval = ρ at e0 e1 ⊢
      go_simp
    · obtain ⟨hop, hdst⟩ := XReg.op_is (x := .load 23 (.tmp 81)) (d := some 82) ho (by kernel_rfl)
      have e0 : a'.eval (.tmp 81) = .pointer (some ⟨0, i, none⟩) := hd 8 81 (by kernel_rfl) (by omega)
      have hc : w'.cell? ⟨0, i, none⟩ = some (.int .u32 (sinesL.getD i 0)) := cg.s i hi64
      have hu23 := Tryd.underlying23
      refine XReg.val_ (v := .int .u32 (sinesL.getD i 0)) (w1 := w') (by rw [hop]; intro c h; cases h) (by simp [Oper.about, hop]) ?_ ⟨_, rfl, Below.refl _ _, rfl⟩
      unfold execOp
      rw [hop]
      clear hr hd hB
      clear cg gl
      generalize sinesL.getD i 0 = sn at hc ⊢
      generalize a'.eval = ρ at e0 ⊢
      go_simp
    · obtain ⟨hop, hdst⟩ := XReg.op_is (x := .binOp .add 23 (.tmp 79) (.tmp 82) 23) (d := some 83) ho (by kernel_rfl)
      have e0 : a'.eval (.tmp 79) = .int .u32 ((((a + f) % 4294967296) + ws.getD k 0) % 4294967296) := hd 6 79 (by kernel_rfl) (by omega)
      have e1 : a'.eval (.tmp 82) = .int .u32 (sinesL.getD i 0) := hd 9 82 (by kernel_rfl) (by omega)
      refine XReg.val_ (v := .int .u32 ((((((a + f) % 4294967296) + ws.getD k 0) % 4294967296) + sinesL.getD i 0) % 4294967296)) (w1 := w') (by rw [hop]; intro c h; cases h) (by simp [Oper.about, hop]) ?_ ⟨_, rfl, Below.refl _ _, rfl⟩
      unfold execOp
      rw [hop]
      clear hr hd hB
      clear cg gl
      generalize a'.eval = ρ at e0 e1 ⊢
      go_simp
      rw [IntKind.wrap_u32]
      omega
  · intro o a' w' ho hB hdf hsz' hr hd
    have cw := blk_below bw hB
    have cg := gl.below hB
    have hfill := XReg.fill_eq [73, 74, 75, 76, 77, 78, 79, 80, 81, 82, 83] hsz' hdf (XReg.rest_of (ops := opsOf Tryd.f12 19) (m := 11) (by kernel_rfl) hr)
    obtain ⟨hop, hdst⟩ := XReg.op_is (x := .assign (.tmp 83)) (d := some 15) ho (by kernel_rfl)
    have e1 : a'.eval (.tmp 83) = .int .u32 ((((((a + f) % 4294967296) + ws.getD k 0) % 4294967296) + sinesL.getD i 0) % 4294967296) := hd 10 83 (by kernel_rfl) (by omega)
    refine XReg.val_ (v := .int .u32 ((((((a + f) % 4294967296) + ws.getD k 0) % 4294967296) + sinesL.getD i 0) % 4294967296)) (w1 := w') (by rw [hop]; intro c h; cases h) (by simp [Oper.about, hop]) ?_ (by rw [hdst, hfill]; exact hK _ w' hB)
    unfold execOp
    rw [hop]
    clear hr hd hB hfill cg gl
    generalize a'.eval = ρ at e1 ⊢
    go_simp

/-! ### tenancyref05.MD5: regions in their textual order: by hand -/
def refTurnV (i q m tn : Nat) : Nat → Value → World → Prop
  | 0, v, _ => v = .int .i64 i
  | 1, v, _ => v = .int .i64 q
  | 2, v, _ => v = .int .i64 ((q * 4 : Nat) : Int)
  | 3, v, _ => v = .int .i64 i
  | 4, v, _ => v = .int .i64 m
  | 5, v, _ => v = .int .i64 ((q * 4 + m : Nat) : Int)
  | 6, v, _ => v = .pointer (some ⟨1, q * 4 + m, none⟩)
  | 7, v, _ => v = .int .u64 tn
  | _, _, _ => True
set_option maxHeartbeats 4000000 in
set_option maxRecDepth 100000 in
theorem refTurn (ops : Array Oper) (hops : ops = opsOf Tryd.f12 20) (id : Nat) (Q : Exit → Act → World → Prop) (act : Act) (w : World) (hsz0 : act.tmps.size = 147) (i q m tn : Nat)
    (h12 : act.eval (.tmp 12) = .int .i64 i) (gl : RGlob w) (hi64 : i < 64) (hq : Int.tdiv (i : Int) 16 = (q : Int)) (hq4 : q < 4) (hm : Int.tmod (i : Int) 4 = (m : Int)) (hm4 : m < 4) (htn : turnsL.getD (4 * q + m) 0 = tn)
    (hK : ∀ (u : Tmp → Value) (W : World), Below w.heap.size w W → Q .normal ((XReg.fills u [84, 85, 86, 87, 88, 89, 90, 91] act).put (some 16) (.int .u64 tn)) W) :
    (Code.region id ops false).wp Tryd.prog Q act w := by
  subst hops
  refine (wpIn_wide (n := 9)).1 (XReg.regionF 8 (by rw [hsz0]; kernel_rfl) (refTurnV i q m tn)
    (fun w' => Below w.heap.size w w') ?_ (fun w1 w2 h1 h2 => below_step h1 h2) (Below.refl _ w) ?_ ?_)
  · intro i v w1 w2 hv hb
    match i, hv with
    | 0, hv | 1, hv | 2, hv | 3, hv | 4, hv | 5, hv | 6, hv | 7, hv => exact hv
    | _ + 8, _ => trivial
  · intro i o a' w' hi ho hB hdf hr hd
    have cg := gl.below hB
    have hcases : i = 0 ∨ i = 1 ∨ i = 2 ∨ i = 3 ∨ i = 4 ∨ i = 5 ∨ i = 6 ∨ i = 7 := by omega
    rcases hcases with rfl | rfl | rfl | rfl | rfl | rfl | rfl | rfl
    · obtain ⟨hop, hdst⟩ := XReg.op_is (x := .move (.tmp 12)) (d := some 84) ho (by kernel_rfl)
      have e0 := (hr 12 (by kernel_rfl)).trans h12
      refine XReg.val_ (v := .int .i64 i) (w1 := w') (by rw [hop]; intro c h; cases h) (by simp [Oper.about, hop]) ?_ ⟨_, rfl, Below.refl _ _, rfl⟩
      unfold execOp
      rw [hop]
      clear hr hd hB
      generalize a'.eval = ρ at e0 ⊢
      go_simp
    · obtain ⟨hop, hdst⟩ := XReg.op_is (x := .binOp .quo 3 (.tmp 84) (.const (.int .i64 16)) 3) (d := some 85) ho (by kernel_rfl)
      have e0 : a'.eval (.tmp 84) = .int .i64 i := hd 0 84 (by kernel_rfl) (by omega)
      have e9 : a'.eval (.const (.int .i64 16)) = .int .i64 16 := rfl
      refine XReg.val_ (v := .int .i64 q) (w1 := w') (by rw [hop]; intro c h; cases h) (by simp [Oper.about, hop]) ?_ ⟨_, rfl, Below.refl _ _, rfl⟩
      unfold execOp
      rw [hop]
      clear hr hd hB
      clear cg gl
      generalize a'.eval = ρ at e0 e9 ⊢
      go_simp
      exact Go.IntWalk.i64_in (q : Int) (by omega)
    · obtain ⟨hop, hdst⟩ := XReg.op_is (x := .binOp .mul 3 (.tmp 85) (.const (.int .i64 4)) 3) (d := some 86) ho (by kernel_rfl)
      have e0 : a'.eval (.tmp 85) = .int .i64 q := hd 1 85 (by kernel_rfl) (by omega)
      have e9 : a'.eval (.const (.int .i64 4)) = .int .i64 4 := rfl
      refine XReg.val_ (v := .int .i64 ((q * 4 : Nat) : Int)) (w1 := w') (by rw [hop]; intro c h; cases h) (by simp [Oper.about, hop]) ?_ ⟨_, rfl, Below.refl _ _, rfl⟩
      unfold execOp
      rw [hop]
      clear hr hd hB
      clear cg gl
      generalize a'.eval = ρ at e0 e9 ⊢
      go_simp
      exact Go.IntWalk.i64_in ((q : Int) * 4) (by omega)
    · obtain ⟨hop, hdst⟩ := XReg.op_is (x := .move (.tmp 12)) (d := some 87) ho (by kernel_rfl)
      have e0 := (hr 12 (by kernel_rfl)).trans h12
      refine XReg.val_ (v := .int .i64 i) (w1 := w') (by rw [hop]; intro c h; cases h) (by simp [Oper.about, hop]) ?_ ⟨_, rfl, Below.refl _ _, rfl⟩
      unfold execOp
      rw [hop]
      clear hr hd hB
      generalize a'.eval = ρ at e0 ⊢
      go_simp
    · obtain ⟨hop, hdst⟩ := XReg.op_is (x := .binOp .rem 3 (.tmp 87) (.const (.int .i64 4)) 3) (d := some 88) ho (by kernel_rfl)
      have e0 : a'.eval (.tmp 87) = .int .i64 i := hd 3 87 (by kernel_rfl) (by omega)
      have e9 : a'.eval (.const (.int .i64 4)) = .int .i64 4 := rfl
      refine XReg.val_ (v := .int .i64 m) (w1 := w') (by rw [hop]; intro c h; cases h) (by simp [Oper.about, hop]) ?_ ⟨_, rfl, Below.refl _ _, rfl⟩
      unfold execOp
      rw [hop]
      clear hr hd hB
      clear cg gl
      generalize a'.eval = ρ at e0 e9 ⊢
      go_simp
    · obtain ⟨hop, hdst⟩ := XReg.op_is (x := .binOp .add 3 (.tmp 86) (.tmp 88) 3) (d := some 89) ho (by kernel_rfl)
      have e0 : a'.eval (.tmp 86) = .int .i64 ((q * 4 : Nat) : Int) := hd 2 86 (by kernel_rfl) (by omega)
      have e1 : a'.eval (.tmp 88) = .int .i64 m := hd 4 88 (by kernel_rfl) (by omega)
      refine XReg.val_ (v := .int .i64 ((q * 4 + m : Nat) : Int)) (w1 := w') (by rw [hop]; intro c h; cases h) (by simp [Oper.about, hop]) ?_ ⟨_, rfl, Below.refl _ _, rfl⟩
      unfold execOp
      rw [hop]
      clear hr hd hB
      clear cg gl
      generalize a'.eval = ρ at e0 e1 ⊢
      go_simp
      exact Go.IntWalk.i64_in ((q : Int) * 4 + (m : Int)) (by omega)
    · obtain ⟨hop, hdst⟩ := XReg.op_is (x := .indexAddr 52 (.global 1) (.tmp 89)) (d := some 90) ho (by kernel_rfl)
      have e0 : a'.eval (.global 1) = .pointer (some ⟨1, 0, none⟩) := rfl
      have e1 : a'.eval (.tmp 89) = .int .i64 ((q * 4 + m : Nat) : Int) := hd 5 89 (by kernel_rfl) (by omega)
      have hu52 := Tryd.underlying52
      refine XReg.val_ (v := .pointer (some ⟨1, q * 4 + m, none⟩)) (w1 := w') (by rw [hop]; intro c h; cases h) (by simp [Oper.about, hop]) ?_ ⟨_, rfl, Below.refl _ _, rfl⟩
      unfold execOp
      rw [hop]
      clear hr hd hB
      clear cg gl
      have hk16 : ((q * 4 + m : Nat) : Int) < 16 := by omega
      clear htn
      generalize q * 4 + m = k at e1 hk16 ⊢
      generalize a'.eval = ρ at e0 e1 ⊢
      go_simp
    · obtain ⟨hop, hdst⟩ := XReg.op_is (x := .load 30 (.tmp 90)) (d := some 91) ho (by kernel_rfl)
      have e0 : a'.eval (.tmp 90) = .pointer (some ⟨1, q * 4 + m, none⟩) := hd 6 90 (by kernel_rfl) (by omega)
      have hc : w'.cell? ⟨1, q * 4 + m, none⟩ = some (.int .u64 tn) := by
        rw [← htn, show 4 * q + m = q * 4 + m by omega]
        exact cg.t (q * 4 + m) (by omega)
      have hu30 := Tryd.underlying30
      refine XReg.val_ (v := .int .u64 tn) (w1 := w') (by rw [hop]; intro c h; cases h) (by simp [Oper.about, hop]) ?_ ⟨_, rfl, Below.refl _ _, rfl⟩
      unfold execOp
      rw [hop]
      clear hr hd hB
      clear cg gl
      generalize q * 4 + m = k at e0 hc
      generalize a'.eval = ρ at e0 ⊢
      go_simp
  · intro o a' w' ho hB hdf hsz' hr hd
    have cg := gl.below hB
    have hfill := XReg.fill_eq [84, 85, 86, 87, 88, 89, 90, 91] hsz' hdf (XReg.rest_of (ops := opsOf Tryd.f12 20) (m := 8) (by kernel_rfl) hr)
    obtain ⟨hop, hdst⟩ := XReg.op_is (x := .assign (.tmp 91)) (d := some 16) ho (by kernel_rfl)
    have e1 : a'.eval (.tmp 91) = .int .u64 tn := hd 7 91 (by kernel_rfl) (by omega)
    refine XReg.val_ (v := .int .u64 tn) (w1 := w') (by rw [hop]; intro c h; cases h) (by simp [Oper.about, hop]) ?_ (by rw [hdst, hfill]; exact hK _ w' hB)
    unfold execOp
    rw [hop]
    clear hr hd hB hfill cg gl
    generalize a'.eval = ρ at e1 ⊢
    go_simp
def refRotV (tn : Nat) (b x : Int) : Nat → Value → World → Prop
  | 0, v, _ => v = .int .u32 b
  | 1, v, _ => v = .int .u32 x
  | 2, v, _ => v = .int .u64 tn
  | 3, v, _ => v = .int .u32 (x * 2 ^ tn % 4294967296)
  | 4, v, _ => v = .int .u32 x
  | 5, v, _ => v = .int .u64 tn
  | 6, v, _ => v = .int .u64 ((32 - tn : Nat) : Int)
  | 7, v, _ => v = .int .u32 (x / 2 ^ (32 - tn))
  | 8, v, _ => v = .int .u32 (Go.bits .or .u32 (x * 2 ^ tn % 4294967296) (x / 2 ^ (32 - tn)))
  | 9, v, _ => v = .int .u32 ((b + (Go.bits .or .u32 (x * 2 ^ tn % 4294967296) (x / 2 ^ (32 - tn)))) % 4294967296)
  | _, _, _ => True
set_option maxHeartbeats 4000000 in
set_option maxRecDepth 100000 in
theorem refRot (ops : Array Oper) (hops : ops = opsOf Tryd.f12 24) (id : Nat) (Q : Exit → Act → World → Prop) (act : Act) (w : World) (hsz0 : act.tmps.size = 147) (tn : Nat) (b x : Int)
    (h9 : act.eval (.tmp 9) = .int .u32 b) (h15 : act.eval (.tmp 15) = .int .u32 x) (h16 : act.eval (.tmp 16) = .int .u64 tn) (htn : tn < 32)
    (hK : ∀ (u : Tmp → Value) (W : World), Below w.heap.size w W → Q .normal ((XReg.fills u [95, 96, 97, 98, 99, 100, 101, 102, 103, 104] act).put (some 9) (.int .u32 ((b + (Go.bits .or .u32 (x * 2 ^ tn % 4294967296) (x / 2 ^ (32 - tn)))) % 4294967296))) W) :
    (Code.region id ops false).wp Tryd.prog Q act w := by
  subst hops
  refine (wpIn_wide (n := 9)).1 (XReg.regionF 10 (by rw [hsz0]; kernel_rfl) (refRotV tn b x)
    (fun w' => Below w.heap.size w w') ?_ (fun w1 w2 h1 h2 => below_step h1 h2) (Below.refl _ w) ?_ ?_)
  · intro i v w1 w2 hv hb
    match i, hv with
    | 0, hv | 1, hv | 2, hv | 3, hv | 4, hv | 5, hv | 6, hv | 7, hv | 8, hv | 9, hv => exact hv
    | _ + 10, _ => trivial
  · intro i o a' w' hi ho hB hdf hr hd
    have hcases : i = 0 ∨ i = 1 ∨ i = 2 ∨ i = 3 ∨ i = 4 ∨ i = 5 ∨ i = 6 ∨ i = 7 ∨ i = 8 ∨ i = 9 := by omega
    rcases hcases with rfl | rfl | rfl | rfl | rfl | rfl | rfl | rfl | rfl | rfl
    · obtain ⟨hop, hdst⟩ := XReg.op_is (x := .move (.tmp 9)) (d := some 95) ho (by kernel_rfl)
      have e0 := (hr 9 (by kernel_rfl)).trans h9
      refine XReg.val_ (v := .int .u32 b) (w1 := w') (by rw [hop]; intro c h; cases h) (by simp [Oper.about, hop]) ?_ ⟨_, rfl, Below.refl _ _, rfl⟩
      unfold execOp
      rw [hop]
      clear hr hd hB
      generalize a'.eval = ρ at e0 ⊢
      go_simp
    · obtain ⟨hop, hdst⟩ := XReg.op_is (x := .move (.tmp 15)) (d := some 96) ho (by kernel_rfl)
      have e0 := (hr 15 (by kernel_rfl)).trans h15
      refine XReg.val_ (v := .int .u32 x) (w1 := w') (by rw [hop]; intro c h; cases h) (by simp [Oper.about, hop]) ?_ ⟨_, rfl, Below.refl _ _, rfl⟩
      unfold execOp
      rw [hop]
      clear hr hd hB
      generalize a'.eval = ρ at e0 ⊢
      go_simp
    · obtain ⟨hop, hdst⟩ := XReg.op_is (x := .move (.tmp 16)) (d := some 97) ho (by kernel_rfl)
      have e0 := (hr 16 (by kernel_rfl)).trans h16
      refine XReg.val_ (v := .int .u64 tn) (w1 := w') (by rw [hop]; intro c h; cases h) (by simp [Oper.about, hop]) ?_ ⟨_, rfl, Below.refl _ _, rfl⟩
      unfold execOp
      rw [hop]
      clear hr hd hB
      generalize a'.eval = ρ at e0 ⊢
      go_simp
    · obtain ⟨hop, hdst⟩ := XReg.op_is (x := .binOp .shl 23 (.tmp 96) (.tmp 97) 30) (d := some 98) ho (by kernel_rfl)
      have e0 : a'.eval (.tmp 96) = .int .u32 x := hd 1 96 (by kernel_rfl) (by omega)
      have e1 : a'.eval (.tmp 97) = .int .u64 tn := hd 2 97 (by kernel_rfl) (by omega)
      have hu23 := Tryd.underlying23
      have hu30 := Tryd.underlying30
      refine XReg.val_ (v := .int .u32 (x * 2 ^ tn % 4294967296)) (w1 := w') (by rw [hop]; intro c h; cases h) (by simp [Oper.about, hop]) ?_ ⟨_, rfl, Below.refl _ _, rfl⟩
      unfold execOp
      rw [hop]
      clear hr hd hB
      generalize a'.eval = ρ at e0 e1 ⊢
      go_simp
      rw [IntKind.wrap_u32]
    · obtain ⟨hop, hdst⟩ := XReg.op_is (x := .move (.tmp 15)) (d := some 99) ho (by kernel_rfl)
      have e0 := (hr 15 (by kernel_rfl)).trans h15
      refine XReg.val_ (v := .int .u32 x) (w1 := w') (by rw [hop]; intro c h; cases h) (by simp [Oper.about, hop]) ?_ ⟨_, rfl, Below.refl _ _, rfl⟩
      unfold execOp
      rw [hop]
      clear hr hd hB
      generalize a'.eval = ρ at e0 ⊢
      go_simp
    · obtain ⟨hop, hdst⟩ := XReg.op_is (x := .move (.tmp 16)) (d := some 100) ho (by kernel_rfl)
      have e0 := (hr 16 (by kernel_rfl)).trans h16
      refine XReg.val_ (v := .int .u64 tn) (w1 := w') (by rw [hop]; intro c h; cases h) (by simp [Oper.about, hop]) ?_ ⟨_, rfl, Below.refl _ _, rfl⟩
      unfold execOp
      rw [hop]
      clear hr hd hB
      generalize a'.eval = ρ at e0 ⊢
      go_simp
    · obtain ⟨hop, hdst⟩ := XReg.op_is (x := .binOp .sub 30 (.const (.int .u64 32)) (.tmp 100) 30) (d := some 101) ho (by kernel_rfl)
      have e0 : a'.eval (.tmp 100) = .int .u64 tn := hd 5 100 (by kernel_rfl) (by omega)
      have e9 : a'.eval (.const (.int .u64 32)) = .int .u64 32 := rfl
      have hu23 := Tryd.underlying23
      have hu30 := Tryd.underlying30
      refine XReg.val_ (v := .int .u64 ((32 - tn : Nat) : Int)) (w1 := w') (by rw [hop]; intro c h; cases h) (by simp [Oper.about, hop]) ?_ ⟨_, rfl, Below.refl _ _, rfl⟩
      unfold execOp
      rw [hop]
      clear hr hd hB
      generalize a'.eval = ρ at e0 e9 ⊢
      go_simp
      rw [IntKind.wrap_u64, show (32 : Int) - (tn : Int) = ((32 - tn : Nat) : Int) by omega]
      exact Int.emod_eq_of_lt (by omega) (by omega)
    · obtain ⟨hop, hdst⟩ := XReg.op_is (x := .binOp .shr 23 (.tmp 99) (.tmp 101) 30) (d := some 102) ho (by kernel_rfl)
      have e0 : a'.eval (.tmp 99) = .int .u32 x := hd 4 99 (by kernel_rfl) (by omega)
      have e1 : a'.eval (.tmp 101) = .int .u64 ((32 - tn : Nat) : Int) := hd 6 101 (by kernel_rfl) (by omega)
      have hu23 := Tryd.underlying23
      have hu30 := Tryd.underlying30
      refine XReg.val_ (v := .int .u32 (x / 2 ^ (32 - tn))) (w1 := w') (by rw [hop]; intro c h; cases h) (by simp [Oper.about, hop]) ?_ ⟨_, rfl, Below.refl _ _, rfl⟩
      unfold execOp
      rw [hop]
      clear hr hd hB
      have hk : 32 - tn ≤ 32 := by omega
      generalize 32 - tn = k at e1 hk ⊢
      generalize a'.eval = ρ at e0 e1 ⊢
      go_simp
    · obtain ⟨hop, hdst⟩ := XReg.op_is (x := .binOp .or 23 (.tmp 98) (.tmp 102) 23) (d := some 103) ho (by kernel_rfl)
      have e0 : a'.eval (.tmp 98) = .int .u32 (x * 2 ^ tn % 4294967296) := hd 3 98 (by kernel_rfl) (by omega)
      have e1 : a'.eval (.tmp 102) = .int .u32 (x / 2 ^ (32 - tn)) := hd 7 102 (by kernel_rfl) (by omega)
      have hu23 := Tryd.underlying23
      have hu30 := Tryd.underlying30
      refine XReg.val_ (v := .int .u32 (Go.bits .or .u32 (x * 2 ^ tn % 4294967296) (x / 2 ^ (32 - tn)))) (w1 := w') (by rw [hop]; intro c h; cases h) (by simp [Oper.about, hop]) ?_ ⟨_, rfl, Below.refl _ _, rfl⟩
      unfold execOp
      rw [hop]
      clear hr hd hB
      generalize (x * 2 ^ tn % 4294967296) = y at e0 ⊢
      generalize (x / 2 ^ (32 - tn)) = z at e1 ⊢
      generalize a'.eval = ρ at e0 e1 ⊢
      go_simp
    · obtain ⟨hop, hdst⟩ := XReg.op_is (x := .binOp .add 23 (.tmp 95) (.tmp 103) 23) (d := some 104) ho (by kernel_rfl)
      have e0 : a'.eval (.tmp 95) = .int .u32 b := hd 0 95 (by kernel_rfl) (by omega)
      have e1 : a'.eval (.tmp 103) = .int .u32 (Go.bits .or .u32 (x * 2 ^ tn % 4294967296) (x / 2 ^ (32 - tn))) := hd 8 103 (by kernel_rfl) (by omega)
      have hu23 := Tryd.underlying23
      have hu30 := Tryd.underlying30
      refine XReg.val_ (v := .int .u32 ((b + (Go.bits .or .u32 (x * 2 ^ tn % 4294967296) (x / 2 ^ (32 - tn)))) % 4294967296)) (w1 := w') (by rw [hop]; intro c h; cases h) (by simp [Oper.about, hop]) ?_ ⟨_, rfl, Below.refl _ _, rfl⟩
      unfold execOp
      rw [hop]
      clear hr hd hB
      generalize (Go.bits .or .u32 (x * 2 ^ tn % 4294967296) (x / 2 ^ (32 - tn))) = y at e1 ⊢
      generalize a'.eval = ρ at e0 e1 ⊢
      go_simp
      rw [IntKind.wrap_u32]
  · intro o a' w' ho hB hdf hsz' hr hd
    have hfill := XReg.fill_eq [95, 96, 97, 98, 99, 100, 101, 102, 103, 104] hsz' hdf (XReg.rest_of (ops := opsOf Tryd.f12 24) (m := 10) (by kernel_rfl) hr)
    obtain ⟨hop, hdst⟩ := XReg.op_is (x := .assign (.tmp 104)) (d := some 9) ho (by kernel_rfl)
    have e1 : a'.eval (.tmp 104) = .int .u32 ((b + (Go.bits .or .u32 (x * 2 ^ tn % 4294967296) (x / 2 ^ (32 - tn)))) % 4294967296) := hd 9 104 (by kernel_rfl) (by omega)
    refine XReg.val_ (v := .int .u32 ((b + (Go.bits .or .u32 (x * 2 ^ tn % 4294967296) (x / 2 ^ (32 - tn)))) % 4294967296)) (w1 := w') (by rw [hop]; intro c h; cases h) (by simp [Oper.about, hop]) ?_ (by rw [hdst, hfill]; exact hK _ w' hB)
    unfold execOp
    rw [hop]
    clear hr hd hB hfill
    generalize a'.eval = ρ at e1 ⊢
    generalize ((b + (Go.bits .or .u32 (x * 2 ^ tn % 4294967296) (x / 2 ^ (32 - tn)))) % 4294967296) = y at e1 ⊢
    go_simp

end Go.Proofs.YtjpcokifadaedaaDoor.X
