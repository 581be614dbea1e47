import Derived.RangeFuncNested
import Derived.RangeFuncBound
import Derived.RangeFuncCalls
import Derived.RangeFuncLeaves
import Derived.Shelf.Abstract
import Derived.Shelf.RegionOpen
import Derived.WalkKit
import Derived.OwnWalkIn
import Derived.TacticsInMore
import Derived.LoopNIn
import Derived.LoopIn
import Derived.Lib.AppendZerosOnto
import Derived.Shelf.Spec.SlicesInsert
import Derived.Deep.RegionLaw
import Derived.WalkLawsBesides
import Derived.Recover
import Derived.Defers
import Derived.Test.YtjpcokifadaedaaDoorX0
import Derived.Test.YtjpcokifadaedaaDoorXOrow
import Derived.Outline
import Derived.Lib.Hide
import Derived.Laws.IdiomCopy
import Derived.Lib.SliceRun
import Derived.WalkSpells
import Derived.Test.YtjpcokifadaedaaDoorXD8
namespace Go.Proofs.YtjpcokifadaedaaDoor.X
open Go.RowKit Go.Proofs.YtjpcokifadaedaaDoorW.PrintWords Go.Proofs.YtjpcokifadaedaaDoorW.PrintLast Go.Proofs.YtjpcokifadaedaaDoorW.PrintMore
set_option linter.unusedVariables false
set_option linter.unusedSimpArgs false
/-! ### tenancyref05_MD5: function 12: by hand -/
theorem rstepF_lt (i : Nat) (hi : i < 64) (b c d : Int) : (rstepF i b c d).2 < 16 := by
  unfold rstepF
  split
  · assumption
  · split
    · exact Nat.mod_lt _ (by decide)
    · split <;> exact Nat.mod_lt _ (by decide)
def rwordS (t : ByteArray) (at_ : Nat) (ws : List Int) (i : Nat) : List Int := ws.set (i / 4) ((ws.getD (i / 4) 0 + ((bytesOf t).getD (at_ + i) 0 * 2 ^ (8 * (i % 4)) % 4294967296)) % 4294967296)
def rwordsN (t : ByteArray) (at_ : Nat) : Nat → List Int
  | 0 => List.replicate 16 0
  | n + 1 => rwordS t at_ (rwordsN t at_ n) n
theorem rwordsN_len (t : ByteArray) (at_ : Nat) : ∀ n, (rwordsN t at_ n).length = 16
  | 0 => rfl
  | n + 1 => by show (List.set _ _ _).length = 16; rw [List.length_set]; exact rwordsN_len t at_ n
def rstepV (ws : List Int) (i : Nat) (s : Md) : Md :=
  ⟨s.d, (s.b + rotF (((((s.a + (rstepF i s.b s.c s.d).1) % 4294967296) + ws.getD (rstepF i s.b s.c s.d).2 0) % 4294967296 + sinesL.getD i 0) % 4294967296) (turnsL.getD (4 * (i / 16) + i % 4) 0)) % 4294967296, s.b, s.c⟩
def rstepN (ws : List Int) : Nat → Md → Md
  | 0, s => s
  | n + 1, s => rstepV ws n (rstepN ws n s)
def rtakeF (s : Md) (t : ByteArray) (at_ : Nat) : Md := addM s (rstepN (rwordsN t at_ 64) 64 s)
def rmd5N (t : ByteArray) : Nat → Md
  | 0 => mdI
  | j + 1 => rtakeF (rmd5N t j) t (64 * j)
def mdAt (h : Md) (i : Nat) : Int := [h.a, h.b, h.c, h.d].getD i 0
def rout (h : Md) : Nat → ByteArray
  | 0 => ⟨#[]⟩
  | i + 1 => rlenN (rout h i) (mdAt h i) 4
theorem rout_size (h : Md) : ∀ n, (rout h n).size = 4 * n
  | 0 => rfl
  | n + 1 => by show (rlenN _ _ 4).size = _; rw [rlenN_size, rout_size h n]; omega
theorem mdC_at (h : Md) (i : Nat) (hi : i < 4) : (mdC h)[i]? = some (.int .u32 (mdAt h i)) := by
  match i, hi with
  | 0, _ => rfl
  | 1, _ => rfl
  | 2, _ => rfl
  | 3, _ => rfl
def tenancyref05_MD5.f (s : ByteArray) : ByteArray := rout (rmd5N (tenancyref05_text.f s) ((tenancyref05_text.f s).size / 64)) 4
theorem rtext_size (s : ByteArray) : (tenancyref05_text.f s).size = s.size + 1 + md5Z s + 8 ∧ (tenancyref05_text.f s).size % 64 = 0 := by
  have h : (tenancyref05_text.f s).size = s.size + 1 + md5Z s + 8 := by
    unfold tenancyref05_text.f
    rw [rlenN_size, rpadN_size]
  refine ⟨h, ?_⟩
  rw [h]
  unfold md5Z
  omega
structure refH (w : World) (g cap gh : Nat) (t : ByteArray) (h : Md) (W : World) : Prop where
  row : XAp.BRow 5 W w.heap.size (.slice (some ⟨g, 0, none⟩) t.size cap) t
  blk : W.heap[gh]? = some (.cells (mdC h) 36 (0, 0))
  bel : Below w.heap.size w W
  low : w.heap.size ≤ gh ∧ g < gh
theorem refH.below {w W W' : World} {g cap gh : Nat} {t : ByteArray} {h : Md} (r : refH w g cap gh t h W) (hb : Below W.heap.size W W') : refH w g cap gh t h W' :=
  ⟨r.row.below hb, blk_below r.blk hb, below_step r.bel hb, r.low⟩
theorem row_g {e : TypeId} {W : World} {B g n cap : Nat} {s : ByteArray} (g' cap' : Nat) (h : Value.slice (some ⟨g, 0, none⟩) n cap = .slice (some ⟨g', 0, none⟩) s.size cap') : g = g' := by
  injection h with h _ _; injection h with h; injection h
theorem refH.under {w W W' : World} {g cap gh n : Nat} {t : ByteArray} {h : Md} (r : refH w g cap gh t h W) (hn : gh < n) (hb : Below n W W') : refH w g cap gh t h W' :=
  ⟨r.row.kept (B' := n) (fun g' cap' e => by have := row_g (e := 5) (W := W) (B := 0) (s := t) g' cap' e; have := r.low; omega) hb, (hb.block gh hn).trans r.blk, r.bel.trans (hb.mono (by have := r.low; omega)), r.low⟩
theorem refH.put {w W : World} {g cap gh : Nat} {t : ByteArray} {h h' : Md} (r : refH w g cap gh t h W) (i : Nat) (v : Value) (e : (mdC h).setIfInBounds i v = mdC h') : refH w g cap gh t h' (W.setCell ⟨gh, i, none⟩ v) :=
  ⟨r.row.kept (B' := gh) (fun g' cap' e => by have := row_g (e := 5) (W := W) (B := 0) (s := t) g' cap' e; have := r.low; omega) ((Below.refl gh W).setCell (Nat.le_refl _) v), blk_put r.blk i v e, r.bel.setCell r.low.1 v, r.low⟩
theorem ref_wraps (q m : Nat) (hq : q < 4) (hm : m < 4) : wrap64 (q : Int) = (q : Int) ∧ wrap64 ((q : Int) * 4) = (q : Int) * 4 ∧ wrap64 ((q : Int) * 4 + (m : Int)) = (q : Int) * 4 + (m : Int) :=
  ⟨Go.IntWalk.wrap64_in _ (by omega), Go.IntWalk.wrap64_in _ (by omega), Go.IntWalk.wrap64_in _ (by omega)⟩
theorem ref_subs (n : Nat) (h : n < 32) : IntKind.u64.wrap (32 - (n : Int)) = 32 - (n : Int) ∧ (32 - (n : Int)) % 18446744073709551616 = 32 - (n : Int) :=
  ⟨by rw [IntKind.wrap_u64]; exact Int.emod_eq_of_lt (by omega) (by omega), Int.emod_eq_of_lt (by omega) (by omega)⟩
theorem RGlob.bel {w w' : World} (h : RGlob w) (hb : Below w.heap.size w w') : RGlob w' := h.below hb
set_option maxHeartbeats 8000000 in
set_option maxRecDepth 100000 in
theorem tenancyref05_MD5.calls (s : ByteArray) (hs : s.size ≤ 140737488355000) (w : World) (gl : RGlob w) :
    Calls Tryd.prog 12 #[.string s] w fun e w' => e = .returned (.string (tenancyref05_MD5.f s)) ∧ Below w.heap.size w w' := by
  obtain ⟨i5, hi5, hz5, hs5, hb5⟩ := infoU8
  have HZ := Aside0.mk hs
  have GL := Aside0.mk gl
  have HF : Aside0 (tenancyref05_MD5.f s = rout (rmd5N (tenancyref05_text.f s) ((tenancyref05_text.f s).size / 64)) 4) := ⟨rfl⟩
  have HTS := Aside0.mk (rtext_size s)
  have HTZ : Aside0 ((tenancyref05_text.f s).size ≤ 140737488355328) := ⟨by rw [(rtext_size s).1]; have : md5Z s < 64 := Nat.mod_lt _ (by decide); omega⟩
  clear hs gl
  generalize htx : tenancyref05_text.f s = t at HF HTS HTZ
  go_enter Tryd.func12, Tryd.ntmps12
  go_upto_region 2 with (go_at_call 21; refine (tenancyref05_text.calls s HZ.out w).mono ?_; rintro e w1 ⟨v, rfl, hr, hb⟩; rw [htx] at hr; have HR := Aside0.mk hr; have HB := Aside0.mk hb; clear hr hb)
  obtain ⟨g, cap, rfl, hgb, hglt⟩ := HR.out.is
  have LOW := Aside0.mk (show w.heap.size ≤ w1.heap.size ∧ g < w1.heap.size from ⟨HB.out.size, hglt⟩)
  clear hgb hglt htx
  go_upto_region 4 with fail
  rw [show (Obj.cells #[Value.int IntKind.u32 1732584193, Value.int IntKind.u32 4023233417, Value.int IntKind.u32 2562383102, Value.int IntKind.u32 271733878] 36) = Obj.cells (mdC mdI) 36 from rfl]
  have RH : Aside0 (refH w g cap w1.heap.size t (rmd5N t 0) (w1.alloc (.cells (mdC mdI) 36))) := ⟨⟨HR.out.below (below_alloc (Below.refl _ w1) _), blk_new w1 _, below_alloc HB.out _, LOW.out⟩⟩
  clear HR HB LOW
  generalize w1.alloc (.cells (mdC mdI) 36) = w2 at RH ⊢
  generalize w1.heap.size = gh at RH ⊢
  go_loopg [5, 6, 7, 8, 9, 10, 11, 12, 13, 14, 15, 16] (t.size / 64) (fun gg s5 _ _ _ _ _ _ _ _ _ _ _ wr => ∃ j : Nat, Aside0 (j ≤ t.size / 64 ∧ t.size / 64 - j ≤ gg) ∧ s5 = .int .i64 ((64 * j : Nat) : Int) ∧ Aside0 (refH w g cap gh t (rmd5N t j) wr))
  case atStart => exact ⟨0, ⟨Nat.zero_le _, Nat.le_refl _⟩, rfl, RH⟩
  case round =>
    clear RH
    obtain ⟨j, HJ, rfl, RH⟩ := hrel
    by_cases cj : j < t.size / 64
    · have hjz : ((64 * j : Nat) : Int) < (t.size : Int) := by have := HTS.out; omega
      have HJL := Aside0.mk (show j < t.size / 64 ∧ 64 * j + 64 ≤ t.size by have := HTS.out; omega)
      generalize hat : 64 * j = at_ at hjz HJL ⊢
      generalize hh0 : rmd5N t j = h at RH
      clear cj
      go_upto_region 8 with fail
      have hwz : (Obj.cells #[Value.int IntKind.u32 0, Value.int IntKind.u32 0, Value.int IntKind.u32 0, Value.int IntKind.u32 0, Value.int IntKind.u32 0, Value.int IntKind.u32 0, Value.int IntKind.u32 0, Value.int IntKind.u32 0, Value.int IntKind.u32 0, Value.int IntKind.u32 0, Value.int IntKind.u32 0, Value.int IntKind.u32 0, Value.int IntKind.u32 0, Value.int IntKind.u32 0, Value.int IntKind.u32 0, Value.int IntKind.u32 0] 48) = Obj.cells (wc (rwordsN t at_ 0)) 48 := rfl
      rw [hwz]
      have RH2 := Aside0.mk (RH.out.below (below_alloc (Below.refl _ wr) (.cells (wc (rwordsN t at_ 0)) 48)))
      have BW := Aside0.mk (blk_new wr (.cells (wc (rwordsN t at_ 0)) 48))
      have LW := Aside0.mk (show gh < wr.heap.size from blk_lt RH.out.blk)
      clear RH hwz
      generalize wr.alloc (.cells (wc (rwordsN t at_ 0)) 48) = w3 at RH2 BW ⊢
      generalize wr.heap.size = gw at BW LW ⊢
      go_loopg [7] 64 (fun g2 s7 w4 => ∃ i : Nat, Aside0 (i ≤ 64 ∧ 64 - i ≤ g2) ∧ s7 = .int .i64 i ∧ Aside0 (w4.heap[gw]? = some (.cells (wc (rwordsN t at_ i)) 48 (0, 0))) ∧ Aside0 (refH w g cap gh t h w4))
      case atStart => exact ⟨0, ⟨by omega⟩, rfl, BW, RH2⟩
      case round =>
        clear BW RH2
        obtain ⟨i, HI, rfl, BW, RH⟩ := hrel
        by_cases ci : i < 64
        · have hiz : (i : Int) < 64 := by omega
          go_upto_region 10 with fail
          refine refWord _ rfl _ _ _ _ (by kernel_rfl) gw g t.size cap i (i / 4) (i % 4) at_ ((bytesOf t).getD (at_ + i) 0) (rwordsN t at_ i) w.heap.size t rfl rfl rfl rfl BW.out (rwordsN_len t at_ i) RH.out.row rfl ci (by have := HJL.out; omega) HTZ.out (tdiv_nat i 4) (by omega) (tmod_nat i 4) (by omega) rfl (by have := byte_at t (at_ + i) (by have := HJL.out; omega); omega) ?_
          intro u W2 hc2 hb2 hk2
          have BW2 : Aside0 (W2.heap[gw]? = some (.cells (wc (rwordsN t at_ (i + 1))) 48 (0, 0))) := ⟨hc2⟩
          have RH2 := Aside0.mk (RH.out.under LW.out (hb2 gw (Nat.le_refl _)))
          clear hc2 hb2 hk2 BW RH
          simp only [XReg.fills, List.foldl_cons, List.foldl_nil, Act.put, List.setIfInBounds_toArray, List.set_cons_zero, List.set_cons_succ]
          go_wp2
          go_roundg (64 - (i + 1))
          case measure => have := HI.out; omega
          case rel => exact ⟨i + 1, ⟨by omega⟩, rfl, BW2, RH2⟩
        · obtain rfl : i = 64 := by have := HI.out; omega
          have hiz : ¬ ((64 : Int) < 64) := by omega
          clear HI ci
          generalize hws : rwordsN t at_ 64 = ws at BW
          have HWL : Aside0 (ws.length = 16) := ⟨hws ▸ rwordsN_len t at_ 64⟩
          have HTF : Aside0 (rmd5N t (j + 1) = addM h (rstepN ws 64 h)) := ⟨by show rtakeF (rmd5N t j) t (64 * j) = _; rw [hh0, hat, ← hws]; rfl⟩
          clear hws hh0
          obtain ⟨h0, h1, h2, h3⟩ := h
          have d0_ : World.cell? _ ⟨gh, 0, none⟩ = some (.int .u32 h0) := (blk_cell RH.out.blk 0).trans rfl
          have d1_ : World.cell? _ ⟨gh, 1, none⟩ = some (.int .u32 h1) := (blk_cell RH.out.blk 1).trans rfl
          have d2_ : World.cell? _ ⟨gh, 2, none⟩ = some (.int .u32 h2) := (blk_cell RH.out.blk 2).trans rfl
          have d3_ : World.cell? _ ⟨gh, 3, none⟩ = some (.int .u32 h3) := (blk_cell RH.out.blk 3).trans rfl
          have hu36 := Tryd.underlying36
          go_upto_region 16 with fail
          clear d0_ d1_ d2_ d3_
          go_loopg [8, 9, 10, 11, 12, 13, 14, 15, 16] 64 (fun g2 s8 s9 s10 s11 s12 _ _ _ _ w4 => ∃ (n : Nat) (q : Md), Aside0 (n ≤ 64 ∧ 64 - n ≤ g2) ∧ Aside0 (rstepN ws n ⟨h0, h1, h2, h3⟩ = q) ∧ s8 = .int .u32 q.a ∧ s9 = .int .u32 q.b ∧ s10 = .int .u32 q.c ∧ s11 = .int .u32 q.d ∧ s12 = .int .i64 n ∧ Aside0 (w4.heap[gw]? = some (.cells (wc ws) 48 (0, 0))) ∧ Aside0 (refH w g cap gh t ⟨h0, h1, h2, h3⟩ w4))
          case atStart => exact ⟨0, ⟨h0, h1, h2, h3⟩, ⟨by omega⟩, ⟨rfl⟩, rfl, rfl, rfl, rfl, rfl, BW, RH⟩
          case round =>
            clear BW RH
            obtain ⟨n, q, HN, HQ, rfl, rfl, rfl, rfl, rfl, BW, RH⟩ := hrel
            by_cases cn : n < 64
            · have hnz : (n : Int) < 64 := by omega
              go_upto_region 19 with (go_at_call 22; refine (tenancyref05_step.calls n cn q.b q.c q.d _).mono ?_; rintro e w9 ⟨rfl, hb9⟩; have RH9 := Aside0.mk (RH.out.below hb9); have BW9 := Aside0.mk (blk_below BW.out hb9); clear hb9)
              have HK := Aside0.mk (rstepF_lt n cn q.b q.c q.d)
              generalize hmf : (rstepF n q.b q.c q.d).1 = mf
              generalize hmk : (rstepF n q.b q.c q.d).2 = mk at HK ⊢
              refine refSum _ rfl _ _ _ _ (by kernel_rfl) gw n mk q.a mf ws rfl rfl rfl rfl rfl BW9.out HWL.out (GL.out.below RH9.out.bel) cn HK.out ?_
              intro u W3 hb3
              have RH3 := Aside0.mk (RH9.out.below hb3)
              have BW3 := Aside0.mk (blk_below BW9.out hb3)
              clear hb3 RH9 BW9 RH BW
              simp only [XReg.fills, List.foldl_cons, List.foldl_nil, Act.put, List.setIfInBounds_toArray, List.set_cons_zero, List.set_cons_succ]
              have HT16 : Aside0 (4 * (n / 16) + n % 4 < 16) := ⟨by omega⟩
              generalize hsum : (((((q.a + mf) % 4294967296 + ws.getD mk 0) % 4294967296 + sinesL.getD n 0) % 4294967296)) = sm
              have HSM := Aside0.mk hsum
              clear hsum
              go_upto_region 20 with fail
              refine refTurn _ rfl _ _ _ _ (by kernel_rfl) n (n / 16) (n % 4) (turnsL.getD (4 * (n / 16) + n % 4) 0) rfl (GL.out.below RH3.out.bel) cn (tdiv_nat n 16) (by omega) (tmod_nat n 4) (by omega) rfl ?_
              intro u W4 hb4
              have RH4 := Aside0.mk (RH3.out.below hb4)
              have BW4 := Aside0.mk (blk_below BW3.out hb4)
              clear hb4 RH3 BW3
              simp only [XReg.fills, List.foldl_cons, List.foldl_nil, Act.put, List.setIfInBounds_toArray, List.set_cons_zero, List.set_cons_succ]
              generalize htn : turnsL.getD (4 * (n / 16) + n % 4) 0 = tn
              have HTN : Aside0 (tn < 32) := ⟨htn ▸ turn_lt _ HT16.out⟩
              have HTE := Aside0.mk htn
              clear htn
              go_upto_region 24 with fail
              refine refRot _ rfl _ _ _ _ (by kernel_rfl) tn q.b sm rfl rfl rfl HTN.out ?_
              intro u W5 hb5
              have RH5 := Aside0.mk (RH4.out.below hb5)
              have BW5 := Aside0.mk (blk_below BW4.out hb5)
              clear hb5 RH4 BW4
              simp only [XReg.fills, List.foldl_cons, List.foldl_nil, Act.put, List.setIfInBounds_toArray, List.set_cons_zero, List.set_cons_succ]
              have HNB : Aside0 (rstepN ws (n + 1) ⟨h0, h1, h2, h3⟩ = ⟨q.d, (q.b + rotF sm tn) % 4294967296, q.b, q.c⟩) := ⟨by show rstepV ws n (rstepN ws n _) = _; rw [HQ.out]; unfold rstepV; rw [hmf, hmk, HSM.out, HTE.out]⟩
              rw [show (bits BinOp.or IntKind.u32 (sm * 2 ^ tn % 4294967296) (sm / 2 ^ (32 - tn))) = rotF sm tn from rfl]
              generalize hnb : (q.b + rotF sm tn) % 4294967296 = nb at HNB ⊢
              clear hnb
              go_wp2
              go_roundg (64 - (n + 1))
              case measure => have := HN.out; omega
              case rel => exact ⟨n + 1, _, ⟨by omega⟩, HNB, rfl, rfl, rfl, rfl, rfl, BW5, RH5⟩
            · obtain rfl : n = 64 := by have := HN.out; omega
              have hnz : ¬ ((64 : Int) < 64) := by omega
              clear HN cn
              have d0_ : World.cell? _ ⟨gh, 0, none⟩ = some (.int .u32 h0) := (blk_cell RH.out.blk 0).trans rfl
              have f0_ : World.frozen? wr ⟨gh, 0, none⟩ = false := by simp [World.frozen?, RH.out.blk]
              go_upto_region 26 with fail
              have RH25 := Aside0.mk (RH.out.put 0 (.int .u32 ((h0 + q.a) % 4294967296)) (show (mdC ⟨h0, h1, h2, h3⟩).setIfInBounds 0 _ = mdC ⟨(h0 + q.a) % 4294967296, h1, h2, h3⟩ from rfl))
              generalize World.setCell wr ⟨gh, 0, none⟩ (.int .u32 ((h0 + q.a) % 4294967296)) = W25 at RH25 ⊢
              clear d0_ f0_ RH
              have d1_ : World.cell? _ ⟨gh, 1, none⟩ = some (.int .u32 h1) := (blk_cell RH25.out.blk 1).trans rfl
              have f1_ : World.frozen? W25 ⟨gh, 1, none⟩ = false := by simp [World.frozen?, RH25.out.blk]
              go_upto_region 27 with fail
              have RH26 := Aside0.mk (RH25.out.put 1 (.int .u32 ((h1 + q.b) % 4294967296)) (show (mdC ⟨(h0 + q.a) % 4294967296, h1, h2, h3⟩).setIfInBounds 1 _ = mdC ⟨(h0 + q.a) % 4294967296, (h1 + q.b) % 4294967296, h2, h3⟩ from rfl))
              generalize World.setCell W25 ⟨gh, 1, none⟩ (.int .u32 ((h1 + q.b) % 4294967296)) = W26 at RH26 ⊢
              clear d1_ f1_ RH25
              have d2_ : World.cell? _ ⟨gh, 2, none⟩ = some (.int .u32 h2) := (blk_cell RH26.out.blk 2).trans rfl
              have f2_ : World.frozen? W26 ⟨gh, 2, none⟩ = false := by simp [World.frozen?, RH26.out.blk]
              go_upto_region 28 with fail
              have RH27 := Aside0.mk (RH26.out.put 2 (.int .u32 ((h2 + q.c) % 4294967296)) (show (mdC ⟨(h0 + q.a) % 4294967296, (h1 + q.b) % 4294967296, h2, h3⟩).setIfInBounds 2 _ = mdC ⟨(h0 + q.a) % 4294967296, (h1 + q.b) % 4294967296, (h2 + q.c) % 4294967296, h3⟩ from rfl))
              generalize World.setCell W26 ⟨gh, 2, none⟩ (.int .u32 ((h2 + q.c) % 4294967296)) = W27 at RH27 ⊢
              clear d2_ f2_ RH26
              have d3_ : World.cell? _ ⟨gh, 3, none⟩ = some (.int .u32 h3) := (blk_cell RH27.out.blk 3).trans rfl
              have f3_ : World.frozen? W27 ⟨gh, 3, none⟩ = false := by simp [World.frozen?, RH27.out.blk]
              go_upto_region 5 with fail
              have RH28 := Aside0.mk (RH27.out.put 3 (.int .u32 ((h3 + q.d) % 4294967296)) (show (mdC ⟨(h0 + q.a) % 4294967296, (h1 + q.b) % 4294967296, (h2 + q.c) % 4294967296, h3⟩).setIfInBounds 3 _ = mdC ⟨(h0 + q.a) % 4294967296, (h1 + q.b) % 4294967296, (h2 + q.c) % 4294967296, (h3 + q.d) % 4294967296⟩ from rfl))
              generalize World.setCell W27 ⟨gh, 3, none⟩ (.int .u32 ((h3 + q.d) % 4294967296)) = W28 at RH28 ⊢
              clear d3_ f3_ RH27
              have HRN : Aside0 (rmd5N t (j + 1) = ⟨(h0 + q.a) % 4294967296, (h1 + q.b) % 4294967296, (h2 + q.c) % 4294967296, (h3 + q.d) % 4294967296⟩) := ⟨by rw [HTF.out, HQ.out]; rfl⟩
              have hwa : wrap64 ((at_ : Int) + 64) = (at_ : Int) + 64 := Go.IntWalk.wrap64_in _ (by have := HJL.out; have := HTZ.out; omega)
              have HAT := Aside0.mk hat
              clear hat hjz
              go_wp2
              go_roundg (t.size / 64 - (j + 1))
              case measure => have := HJ.out; have := HJL.out; omega
              case rel => exact ⟨j + 1, ⟨by have := HJL.out; omega⟩, by rw [← HAT.out]; simp only [Int.natCast_add, Int.natCast_mul]; congr 1, ⟨by rw [HRN.out]; exact RH28.out⟩⟩
    · have HJE : Aside0 (j = t.size / 64) := ⟨by have := HJ.out; omega⟩
      have hjz : ¬ ((64 * j : Nat) : Int) < (t.size : Int) := by have := HTS.out; have := HJE.out; omega
      have HFR : Aside0 (tenancyref05_MD5.f s = rout (rmd5N t j) 4) := ⟨by rw [HF.out, HJE.out]⟩
      generalize hh : rmd5N t j = h at RH HFR
      clear cj hh
      go_upto_region 31 with fail
      have BR0 : Aside0 (XAp.BRow 5 (wr.alloc (.cells #[] 5)) wr.heap.size (.slice (some ⟨wr.heap.size, 0, none⟩) (⟨#[]⟩ : ByteArray).size 0) ⟨#[]⟩) := ⟨XAp.BRow.empty _ (Nat.le_refl _) (blk_new wr _)⟩
      have RH0 := Aside0.mk (RH.out.below (below_alloc (Below.refl _ wr) (.cells #[] 5)))
      have LW := Aside0.mk (show gh < wr.heap.size from blk_lt RH.out.blk)
      have LW2 : Aside0 (wr.heap.size ≤ (wr.alloc (.cells #[] 5)).heap.size) := ⟨by rw [World.size_alloc]; omega⟩
      clear RH hjz HJ
      generalize wr.alloc (.cells #[] 5) = w5 at BR0 RH0 LW2 ⊢
      generalize wr.heap.size = B at BR0 LW LW2 ⊢
      have hu36 := Tryd.underlying36
      go_loopg [17, 18, 19] 4 (fun gg s17 s18 _ w6 => ∃ (i g2 cap2 : Nat) (u2 : ByteArray), Aside0 (i ≤ 4 ∧ 4 - i ≤ gg) ∧ s18 = .int .i64 i ∧ s17 = .slice (some ⟨g2, 0, none⟩) u2.size cap2 ∧ Aside0 (rout h i = u2) ∧ Aside0 (XAp.BRow 5 w6 B (.slice (some ⟨g2, 0, none⟩) u2.size cap2) u2) ∧ Aside0 (refH w g cap gh t h w6) ∧ Aside0 (B ≤ w6.heap.size))
      case atStart => exact ⟨0, B, 0, ⟨#[]⟩, ⟨by omega⟩, rfl, rfl, ⟨rfl⟩, BR0, RH0, LW2⟩
      case round =>
        clear BR0 RH0 LW2
        obtain ⟨i, g2, cap2, u2, HI, rfl, rfl, HU, BR, RH, SZ⟩ := hrel
        by_cases ci : i < 4
        · have hiz : (i : Int) < 4 := by omega
          have HUS : Aside0 (u2.size = 4 * i) := ⟨by rw [← HU.out]; exact rout_size h i⟩
          have HCI := Aside0.mk ci
          clear ci
          generalize hx : mdAt h i = x
          have HX := Aside0.mk hx
          go_upto_region 34 with fail
          go_loopg [17, 19] 4 (fun gg s17 s19 w7 => ∃ (k g3 cap3 : Nat) (u3 : ByteArray), Aside0 (k ≤ 4 ∧ 4 - k ≤ gg) ∧ s19 = .int .i64 k ∧ s17 = .slice (some ⟨g3, 0, none⟩) u3.size cap3 ∧ Aside0 (rlenN u2 x k = u3) ∧ Aside0 (XAp.BRow 5 w7 B (.slice (some ⟨g3, 0, none⟩) u3.size cap3) u3) ∧ Aside0 (refH w g cap gh t h w7) ∧ Aside0 (B ≤ w7.heap.size))
          case atStart => exact ⟨0, g2, cap2, u2, ⟨by omega⟩, rfl, rfl, ⟨rfl⟩, BR, RH, SZ⟩
          case round =>
            clear BR RH SZ
            obtain ⟨k, g3, cap3, u3, HK, rfl, rfl, HU3, BR, RH, SZ⟩ := hrel
            by_cases ck : k < 4
            · have hkz : (k : Int) < 4 := by omega
              have HCK := Aside0.mk ck
              have HS1 := Aside0.mk (show u3.size + 1 ≤ 140737488355328 by have h1 : u3.size = u2.size + k := by { rw [← HU3.out]; exact rlenN_size u2 x k }; have := HUS.out; have := HCI.out; omega)
              have hwm : wrap64 (8 * (k : Int)) = 8 * (k : Int) := Go.IntWalk.wrap64_in _ (by omega)
              have hmu : (8 * (k : Int)) % 18446744073709551616 = 8 * (k : Int) := Int.emod_eq_of_lt (by omega) (by omega)
              have hmu2 : IntKind.u64.wrap (8 * (k : Int)) = 8 * (k : Int) := by rw [IntKind.wrap_u64]; exact hmu
              have hbnd : 8 * (k : Int) < 32 := by omega
              have hbk : 8 * k ≤ 32 := by omega
              have htn : (8 * (k : Int)).toNat = 8 * k := by omega
              have hc36 : World.cell? wr ⟨gh, i, none⟩ = some (.int .u32 x) := (blk_cell RH.out.blk i).trans (hx ▸ mdC_at h i HCI.out)
              clear ck
              go_wp2_with ((with_reducible refine XAp.gate_append rfl ?_); refine XAp.appL_ 144 rfl rfl 31 rfl wr.heap.size (x / 2 ^ (8 * k) % 256) rfl rfl (BR.out.below (below_alloc (Below.refl _ wr) _)) i5 Tryd.underlying31 hi5 hz5 hs5 hb5 (blk_new wr _) (by exact ⟨Int.emod_nonneg _ (by decide), Int.emod_lt_of_pos _ (by decide)⟩) HS1.out (Nat.le_trans SZ.out (by rw [World.size_alloc]; omega)) ?_; intro v1 W1 hr1 hb1; have BR1 := Aside0.mk hr1; have RH1 := Aside0.mk ((RH.out.below (below_alloc (Below.refl _ wr) _)).under LW.out hb1); have SZ1 := Aside0.mk (Nat.le_trans (Nat.le_trans SZ.out (show wr.heap.size ≤ (wr.alloc _).heap.size by rw [World.size_alloc]; omega)) hb1.size); clear hr1 hb1)
              obtain ⟨g4, cap4, rfl, _⟩ := BR1.out.is
              go_roundg (4 - (k + 1))
              case measure => have := HK.out; have := HCK.out; omega
              case rel => exact ⟨k + 1, g4, cap4, _, ⟨HCK.out, Nat.le_refl _⟩, rfl, rfl, ⟨by show XAp.pushB (rlenN u2 x k) _ = _; rw [HU3.out]⟩, BR1, RH1, SZ1⟩
            · obtain rfl : k = 4 := by have := HK.out; omega
              have hkz : ¬ ((4 : Int) < 4) := by omega
              clear HK ck
              go_wp2
              go_roundg (4 - (i + 1))
              case measure => have := HI.out; have := HCI.out; omega
              case rel => exact ⟨i + 1, g3, cap3, u3, ⟨HCI.out, Nat.le_refl _⟩, rfl, rfl, ⟨by show rlenN (rout h i) (mdAt h i) 4 = _; rw [HU.out, HX.out]; exact HU3.out⟩, BR, RH, SZ⟩
        · obtain rfl : i = 4 := by have := HI.out; omega
          have hiz : ¬ ((4 : Int) < 4) := by omega
          clear HI ci
          have hcv := BR.out.text (P := Tryd.prog) 31 9 Tryd.underlying31 Tryd.underlying5 Tryd.underlying9
          have HBL := Aside0.mk RH.out.bel
          clear BR RH
          go_wp2
          go_ret
          exact ⟨by rw [HFR.out, HU.out]; rfl, HBL.out⟩

end Go.Proofs.YtjpcokifadaedaaDoor.X
