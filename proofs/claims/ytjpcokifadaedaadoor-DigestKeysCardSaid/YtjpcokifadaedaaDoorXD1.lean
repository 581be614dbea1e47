import Derived.RangeFuncNested
import Derived.RangeFuncBound
import Derived.RangeFuncCalls
import Derived.RangeFuncLeaves
import Derived.Shelf.Abstract
import Derived.Shelf.RegionOpen
import Derived.WalkKit
import Derived.OwnWalkIn
import Derived.TacticsInMore
import Derived.LoopNIn
import Derived.LoopIn
import Derived.Lib.AppendZerosOnto
import Derived.Shelf.Spec.SlicesInsert
import Derived.Deep.RegionLaw
import Derived.WalkLawsBesides
import Derived.Recover
import Derived.Defers
import Derived.Test.YtjpcokifadaedaaDoorX0
import Derived.Test.YtjpcokifadaedaaDoorXOrow
import Derived.Outline
import Derived.Lib.Hide
import Derived.Laws.IdiomCopy
import Derived.Lib.SliceRun
import Derived.WalkSpells
import Derived.Test.YtjpcokifadaedaaDoorXD0
namespace Go.Proofs.YtjpcokifadaedaaDoor.X
open Go.RowKit Go.Proofs.YtjpcokifadaedaaDoorW.PrintWords Go.Proofs.YtjpcokifadaedaaDoorW.PrintLast Go.Proofs.YtjpcokifadaedaaDoorW.PrintMore
set_option linter.unusedVariables false
set_option linter.unusedSimpArgs false
/-! ### digest_state_take: function 18: by hand -/
def wordsN (part : ByteArray) : Nat → List Int
  | 0 => List.replicate 16 0
  | n + 1 => wordS part (wordsN part n) n
theorem wordsN_len (part : ByteArray) : ∀ n, (wordsN part n).length = 16
  | 0 => rfl
  | n + 1 => by show (List.set _ _ _).length = 16; rw [List.length_set]; exact wordsN_len part n
structure Md where
  a : Int
  b : Int
  c : Int
  d : Int
def stepF (ws : List Int) (i : Nat) (s : Md) : Md :=
  ⟨s.d, (s.b + rotF (((((s.a + (mixF i s.b s.c s.d).1) % 4294967296) + ws.getD (mixF i s.b s.c s.d).2 0) % 4294967296 + sinesL.getD i 0) % 4294967296) (turnsL.getD (4 * (i / 16) + i % 4) 0)) % 4294967296, s.b, s.c⟩
def stepN (ws : List Int) : Nat → Md → Md
  | 0, s => s
  | n + 1, s => stepF ws n (stepN ws n s)
def addM (s t : Md) : Md := ⟨(s.a + t.a) % 4294967296, (s.b + t.b) % 4294967296, (s.c + t.c) % 4294967296, (s.d + t.d) % 4294967296⟩
def takeF (s : Md) (part : ByteArray) : Md := addM s (stepN (wordsN part 64) 64 s)
def mdV (s : Md) : Value := .agg #[.int .u32 s.a, .int .u32 s.b, .int .u32 s.c, .int .u32 s.d]
theorem three_allocs (w : World) (A B C : Array Value) (ta tb tc : TypeId) (W : World) (h : ((w.alloc (.cells A ta)).alloc (.cells B tb)).alloc (.cells C tc) = W) :
    W.heap[w.heap.size]? = some (.cells A ta (0, 0)) ∧ W.heap[w.heap.size + 1]? = some (.cells B tb (0, 0)) ∧ W.heap[w.heap.size + 1 + 1]? = some (.cells C tc (0, 0)) ∧ Below w.heap.size w W := by
  subst h
  have h1 := blk_new w (.cells A ta)
  have h2 := blk_new (w.alloc (.cells A ta)) (.cells B tb)
  have h3 := blk_new ((w.alloc (.cells A ta)).alloc (.cells B tb)) (.cells C tc)
  simp only [World.size_alloc] at h2 h3
  refine ⟨?_, ?_, h3, below_alloc (below_alloc (below_alloc (Below.refl _ w) _) _) _⟩
  · rw [Below.heap_alloc _ _ _ (by simp only [World.size_alloc]; omega), Below.heap_alloc _ _ _ (by simp only [World.size_alloc]; omega)]
    exact h1
  · rw [Below.heap_alloc _ _ _ (by simp only [World.size_alloc]; omega)]
    exact h2
def takeH (w : World) (gh g4 gw : Nat) (h0 h1 h2 h3 : Int) (ws : List Int) (W : World) : Prop :=
  W.heap[gh]? = some (.cells #[.int .u32 h0, .int .u32 h1, .int .u32 h2, .int .u32 h3] 37 (0, 0)) ∧ W.heap[g4]? = some (.cells #[.int .u32 0, .int .u32 0, .int .u32 0, .int .u32 0] 37 (0, 0)) ∧ W.heap[gw]? = some (.cells (wc ws) 48 (0, 0)) ∧ Below w.heap.size w W
theorem takeH.below {w W W' : World} {gh g4 gw : Nat} {h0 h1 h2 h3 : Int} {ws : List Int} (h : takeH w gh g4 gw h0 h1 h2 h3 ws W) (hb : Below W.heap.size W W') : takeH w gh g4 gw h0 h1 h2 h3 ws W' :=
  ⟨blk_below h.1 hb, blk_below h.2.1 hb, blk_below h.2.2.1 hb, below_step h.2.2.2 hb⟩
theorem takeH.put {w W W' : World} {gh g4 gw : Nat} {h0 h1 h2 h3 : Int} {ws ws' : List Int} (h : takeH w gh g4 gw h0 h1 h2 h3 ws W) (hne : w.heap.size ≤ gw ∧ gh ≠ gw ∧ g4 ≠ gw)
    (hc : W'.heap[gw]? = some (.cells (wc ws') 48 (0, 0))) (hb : ∀ n, n ≤ gw → Below n W W') (hk : ∀ k, k < W.heap.size → k ≠ gw → W'.heap[k]? = W.heap[k]?) : takeH w gh g4 gw h0 h1 h2 h3 ws' W' :=
  ⟨(hk gh (blk_lt h.1) hne.2.1).trans h.1, (hk g4 (blk_lt h.2.1) hne.2.2).trans h.2.1, hc, h.2.2.2.trans (hb _ hne.1)⟩
set_option maxHeartbeats 4000000 in
set_option maxRecDepth 100000 in
theorem digest_state_take.calls (s : Md) (part : ByteArray) (hp : 64 ≤ part.size) (w : World) (gl : Glob w) :
    Calls Tryd.prog 18 #[mdV s, .string part] w fun e w' => e = .returned (mdV (takeF s part)) ∧ Below w.heap.size w w' := by
  obtain ⟨h0, h1, h2, h3⟩ := s
  unfold mdV
  go_enter Tryd.func18, Tryd.ntmps18
  go_upto_region 2 with fail
  have GL := Aside0.mk gl
  have HP := Aside0.mk hp
  clear gl hp
  generalize hW : World.alloc _ _ = W
  obtain ⟨t1, t2, t3, t4⟩ := three_allocs w _ _ _ _ _ _ W hW
  clear hW
  have HN : Aside0 (w.heap.size ≤ w.heap.size + 1 + 1 ∧ w.heap.size ≠ w.heap.size + 1 + 1 ∧ w.heap.size + 1 ≠ w.heap.size + 1 + 1) := ⟨by omega⟩
  have HN4 : Aside0 (w.heap.size ≤ w.heap.size + 1) := ⟨by omega⟩
  have TH : Aside0 (takeH w w.heap.size (w.heap.size + 1) (w.heap.size + 1 + 1) h0 h1 h2 h3 (wordsN part 0) W) := ⟨⟨t1, t2, t3, t4⟩⟩
  clear t1 t2 t3 t4
  generalize hgh : w.heap.size = gh at HN HN4 TH ⊢
  generalize gh + 1 + 1 = gw at HN TH ⊢
  generalize gh + 1 = g4 at HN TH HN4 ⊢
  go_upto_region 3 with fail
  go_loopg [6, 14] 64 (fun gg _ s14 wr => ∃ (n : Nat), Aside0 (n ≤ 64 ∧ 64 - n ≤ gg) ∧ s14 = .int .i64 n ∧ Aside0 (takeH w gh g4 gw h0 h1 h2 h3 (wordsN part n) wr))
  case atStart => exact ⟨0, ⟨by omega⟩, rfl, TH⟩
  case round =>
    clear TH
    obtain ⟨n, HL, rfl, TH⟩ := hrel
    by_cases hlt : n < 64
    · have hltz : (n : Int) < 64 := by omega
      go_upto_region 5 with fail
      refine takeWord _ rfl _ _ _ _ (by kernel_rfl) gw n (n / 4) (n % 4) ((bytesOf part).getD n 0) (wordsN part n) part rfl rfl rfl TH.out.2.2.1 (wordsN_len part n) hlt HP.out (tdiv_nat n 4) (by omega) (tmod_nat n 4) (by omega) rfl (by have := byte_at part n (by have := HP.out; omega); omega) ?_
      intro u W2 hc2 hb2 hk2
      have TH2 := Aside0.mk (TH.out.put (by have := HN.out; omega) hc2 hb2 hk2)
      clear hc2 hb2 hk2 TH
      simp only [XReg.fills, List.foldl_cons, List.foldl_nil, Act.put, List.setIfInBounds_toArray, List.set_cons_zero, List.set_cons_succ]
      go_wp2
      go_roundg (64 - (n + 1))
      case measure => have := HL.out; omega
      case rel => exact ⟨n + 1, ⟨by omega⟩, rfl, TH2⟩
    · obtain rfl : n = 64 := by have := HL.out; omega
      have hltz : ¬ ((64 : Int) < 64) := by omega
      clear HL
      go_upto_region 7 with fail
      refine takeHead _ rfl _ _ _ _ (by kernel_rfl) gh h0 h1 h2 h3 rfl TH.out.1 ?_
      intro u W2 u7 u8 u9 hb2
      have TH2 := Aside0.mk (TH.out.below hb2)
      clear hb2 TH
      simp only [XReg.fills, List.foldl_cons, List.foldl_nil, Act.put, List.setIfInBounds_toArray, List.set_cons_zero, List.set_cons_succ, u7, u8, u9]
      clear u7 u8 u9
      generalize hws : wordsN part 64 = ws at TH2
      have HLEN : Aside0 (ws.length = 16) := ⟨hws ▸ wordsN_len part 64⟩
      have HTF : Aside0 (takeF ⟨h0, h1, h2, h3⟩ part = addM ⟨h0, h1, h2, h3⟩ (stepN ws 64 ⟨h0, h1, h2, h3⟩)) := ⟨by rw [← hws]; rfl⟩
      clear hws
      go_upto_region 9 with fail
      go_loopg [7, 8, 9, 10, 11, 12, 13, 40] 64 (fun gg s7 s8 s9 s10 _ _ _ s40 wr => ∃ (n : Nat) (t : Md), Aside0 (n ≤ 64 ∧ 64 - n ≤ gg) ∧ Aside0 (stepN ws n ⟨h0, h1, h2, h3⟩ = t) ∧ s7 = .int .u32 t.a ∧ s8 = .int .u32 t.b ∧ s9 = .int .u32 t.c ∧ s10 = .int .u32 t.d ∧ s40 = .int .i64 n ∧ Aside0 (takeH w gh g4 gw h0 h1 h2 h3 ws wr))
      case atStart => exact ⟨0, ⟨h0, h1, h2, h3⟩, ⟨by omega⟩, ⟨rfl⟩, rfl, rfl, rfl, rfl, rfl, TH2⟩
      case round =>
        clear TH2
        obtain ⟨n, t, HL, HS, rfl, rfl, rfl, rfl, rfl, TH⟩ := hrel
        by_cases hlt : n < 64
        · have hltz : (n : Int) < 64 := by omega
          go_upto_region 12 with (go_at_call 28; refine (digest_mix.calls n hlt t.b t.c t.d _).mono ?_; rintro e w9 ⟨rfl, hb9⟩; have TH9 := Aside0.mk (TH.out.below hb9); clear hb9)
          have HK := Aside0.mk (mixF_lt n hlt t.b t.c t.d)
          generalize hmf : (mixF n t.b t.c t.d).1 = mf
          generalize hmk : (mixF n t.b t.c t.d).2 = mk at HK ⊢
          refine takeStep _ rfl _ _ _ _ (by kernel_rfl) gw n (n / 16) (n % 4) mk t.a t.b t.c t.d mf ws rfl rfl rfl rfl rfl rfl rfl rfl TH9.out.2.2.1 HLEN.out (GL.out.below TH9.out.2.2.2) hlt HK.out (tdiv_nat n 16) (by omega) (tmod_nat n 4) (by omega) ?_
          intro u W3 u7 hb3
          have TH3 := Aside0.mk (TH9.out.below hb3)
          clear hb3 TH9 TH
          simp only [XReg.fills, List.foldl_cons, List.foldl_nil, Act.put, List.setIfInBounds_toArray, List.set_cons_zero, List.set_cons_succ, u7]
          clear u7
          go_wp2
          go_roundg (64 - (n + 1))
          case measure => have := HL.out; omega
          case rel => exact ⟨n + 1, stepF ws n t, ⟨by omega⟩, ⟨by show stepF ws n (stepN ws n _) = _; rw [HS.out]⟩, rfl, by unfold stepF; rw [hmf, hmk], rfl, rfl, rfl, TH3⟩
        · obtain rfl : n = 64 := by have := HL.out; omega
          have hltz : ¬ ((64 : Int) < 64) := by omega
          clear HL
          have d0_ := (blk_cell TH.out.1 0).trans rfl
          have d1_ := (blk_cell TH.out.1 1).trans rfl
          have d2_ := (blk_cell TH.out.1 2).trans rfl
          have d3_ := (blk_cell TH.out.1 3).trans rfl
          have hi37 : (Tryd.prog.info? 37).map (·.size) = some 4 := by kernel_rfl
          go_wp2_with ((with_reducible refine gate_store (p := 4) rfl ?_); refine XBox.storeL_ rfl rfl 37 rfl g4 rfl #[.int .u32 0, .int .u32 0, .int .u32 0, .int .u32 0] #[.int .u32 ((h0 + t.a) % 4294967296), .int .u32 ((h1 + t.b) % 4294967296), .int .u32 ((h2 + t.c) % 4294967296), .int .u32 ((h3 + t.d) % 4294967296)] rfl TH.out.2.1 hi37 (Eq.refl 4) (by simp [Value.oneCell']) ?_; intro W4 hw1 hw2 hw3; have B4 := Aside0.mk hw1; have HB4 := Aside0.mk (TH.out.2.2.2.trans (hw2 _ (Nat.le_trans (Nat.le_of_eq hgh) HN4.out))); clear hw1 hw2 hw3)
          go_wp2
          try simp only [Exit.inBlock, Exit.then]
          refine bodyPost_ret (results_cell_row rfl _ _ g4 37 #[.int .u32 ((h0 + t.a) % 4294967296), .int .u32 ((h1 + t.b) % 4294967296), .int .u32 ((h2 + t.c) % 4294967296), .int .u32 ((h3 + t.d) % 4294967296)] (0, 0) _ rfl B4.out Tryd.underlying37 rfl hi37) rfl ?_
          refine ⟨?_, hgh ▸ HB4.out⟩
          rw [HTF.out, HS.out]
          rfl

end Go.Proofs.YtjpcokifadaedaaDoor.X
