/- no condition. -/
import Derived.Test.YthadapbekmmgpaaDX0
import Derived.Test.YthadapbekmmgpaaDX9
import Derived.Test.YthadapbekmmgpaaDXCv
import Derived.Test.YthadapbekmmgpaaDXE3
import Derived.Test.YthadapbekmmgpaaDXIn
import Derived.Test.YthadapbekmmgpaaDXOrow
import Derived.Test.YthadapbekmmgpaaDXReg
import Derived.Test.YthadapbekmmgpaaDXRegF
import Derived.Test.YthadapbekmmgpaaDXRegP
import Derived.Outline
import Derived.Lib.Hide
import Derived.Laws.IdiomCopy
import Derived.Lib.SliceRun
import Derived.WalkSpells
namespace Go.Proofs.Ythadapbekmmgpaa.X
open Go.RowKit Go.Proofs.YthadapbekmmgpaaW.PrintWords Go.Proofs.YthadapbekmmgpaaW.PrintLast Go.Proofs.YthadapbekmmgpaaW.PrintMore
set_option linter.unusedVariables false
set_option linter.unusedSimpArgs false
/-- The blocks of 'one': the message, the option, the result; its lists lie apart from them. -/
structure O1 (w0 : World) (B gm : Nat) (S : Nat → Prop) (m : Ms) (code : Int) (data : ByteArray) (W : World) : Prop where
  ex : ∃ vi vo, W.heap[gm]? = some (.cells (m.row vi vo) 26 (0, 0)) ∧ Kd.R k51 51 W B (fun q => S q ∧ (q < gm ∨ gm + 1 + 1 < q)) vi m.ias ∧ Kd.R k42 42 W B (fun q => S q ∧ (q < gm ∨ gm + 1 + 1 < q)) vo m.opts
  bo : W.heap[gm + 1]? = some (.cells #[.int .u16 code, .string data] 42 (0, 0))
  br : W.heap[gm + 1 + 1]? = some (.cells #[.int .i64 0, .int .u32 0, .string (⟨#[]⟩ : ByteArray), .string (⟨#[]⟩ : ByteArray), .slice none 0 0, .int .i64 0, .bool false, .bool false, .int .i64 0, .slice none 0 0] 26 (0, 0))
  bel : Below B w0 W
  low : B ≤ gm ∧ w0.heap.size ≤ gm
  frm : ∀ q, q < w0.heap.size → ¬ S q → W.heap[q]? = w0.heap[q]?
theorem O1.below {w0 W W' : World} {B gm : Nat} {S : Nat → Prop} {m : Ms} {code : Int} {data : ByteArray} (h : O1 w0 B gm S m code data W) (hb : Below W.heap.size W W') : O1 w0 B gm S m code data W' := by
  obtain ⟨⟨vi, vo, h1, h2, h3⟩, h4, h5, h6, h7, h8⟩ := h
  exact ⟨⟨vi, vo, blk_below h1 hb, Kd.R_below h2 hb, Kd.R_below h3 hb⟩, blk_below h4 hb, blk_below h5 hb, h6.trans (hb.mono (by have := blk_lt h1; omega)), h7, fun q hq hs => (hb.block q (by have := blk_lt h1; omega)).trans (h8 q hq hs)⟩
theorem O1.set {w0 W : World} {B gm : Nat} {S : Nat → Prop} {m m' : Ms} {code : Int} {data : ByteArray} (h : O1 w0 B gm S m code data W) (i : Nat) (v : Value) (e : ∀ vi vo, (m.row vi vo).setIfInBounds i v = m'.row vi vo) (hi : m'.ias = m.ias) (ho : m'.opts = m.opts) : O1 w0 B gm S m' code data (W.setCell ⟨gm, i, none⟩ v) := by
  obtain ⟨⟨vi, vo, h1, h2, h3⟩, h4, h5, h6, h7, h8⟩ := h
  have hn : ∀ q o, W.heap[q]? = some o → q ≠ gm → (W.setCell ⟨gm, i, none⟩ v).heap[q]? = some o := fun q o hq hne => (Below.heap_setCell W ⟨gm, i, none⟩ v q hne).trans hq
  exact ⟨⟨vi, vo, blk_put h1 i v (e vi vo), by rw [hi]; exact Kd.R_set h2 h1 (by decide) i v, by rw [ho]; exact Kd.R_set h3 h1 (by decide) i v⟩, hn _ _ h4 (by omega), hn _ _ h5 (by omega), h6.setCell h7.1 v, h7, fun q hq hs => (Below.heap_setCell W ⟨gm, i, none⟩ v q (show q ≠ gm by omega)).trans (h8 q hq hs)⟩
theorem O1.putIas {w0 W W1 : World} {B gm : Nat} {S : Nat → Prop} {m : Ms} {code : Int} {data : ByteArray} {vi vo v1 : Value} {l : List S51} (h1 : W.heap[gm]? = some (.cells (m.row vi vo) 26 (0, 0))) (h2 : Kd.R k51 51 W B (fun q => S q ∧ (q < gm ∨ gm + 1 + 1 < q)) vi m.ias) (h3 : Kd.R k42 42 W B (fun q => S q ∧ (q < gm ∨ gm + 1 + 1 < q)) vo m.opts)
    (h4 : W.heap[gm + 1]? = some (.cells #[.int .u16 code, .string data] 42 (0, 0))) (h5 : W.heap[gm + 1 + 1]? = some (.cells #[.int .i64 0, .int .u32 0, .string (⟨#[]⟩ : ByteArray), .string (⟨#[]⟩ : ByteArray), .slice none 0 0, .int .i64 0, .bool false, .bool false, .int .i64 0, .slice none 0 0] 26 (0, 0))) (h7 : B ≤ gm ∧ w0.heap.size ≤ gm) (h8 : ∀ q, q < w0.heap.size → ¬ S q → W.heap[q]? = w0.heap[q]?) (hr : Kd.R k51 51 W1 B (fun q => S q ∧ (q < gm ∨ gm + 1 + 1 < q)) v1 l) (hb : Below B w0 W1) (hg : W.grownBy W1 vi.ownBlock) : O1 w0 B gm S { m with ias := l } code data (W1.setCell ⟨gm, 4, none⟩ v1) := by
  have hk := blk_grown h1 hg (Kd.R_ne h2 h1 (by decide))
  have hn : ∀ q o, W1.heap[q]? = some o → q ≠ gm → (W1.setCell ⟨gm, 4, none⟩ v1).heap[q]? = some o := fun q o hq hne => (Below.heap_setCell W1 ⟨gm, 4, none⟩ v1 q hne).trans hq
  exact ⟨⟨v1, vo, blk_put hk 4 v1 rfl, Kd.R_set hr hk (by decide) 4 v1, Kd.R_set (Kd.R_over h3 h2 (by decide) hg) hk (by decide) 4 v1⟩, hn _ _ (blk_grown h4 hg (Kd.R_ne h2 h4 (by decide))) (by omega), hn _ _ (blk_grown h5 hg (Kd.R_ne h2 h5 (by decide))) (by omega), hb.setCell h7.1 v1, h7, fun q hq hs => (Below.heap_setCell W1 ⟨gm, 4, none⟩ v1 q (show q ≠ gm by omega)).trans ((hg.block q (by have := blk_lt h1; omega) (fun e => hs (h2.1 q e.symm).1)).trans (h8 q hq hs))⟩
theorem O1.putOpts {w0 W W1 : World} {B gm : Nat} {S : Nat → Prop} {m : Ms} {code : Int} {data : ByteArray} {vi vo v1 : Value} {l : List S42} (h1 : W.heap[gm]? = some (.cells (m.row vi vo) 26 (0, 0))) (h2 : Kd.R k51 51 W B (fun q => S q ∧ (q < gm ∨ gm + 1 + 1 < q)) vi m.ias) (h3 : Kd.R k42 42 W B (fun q => S q ∧ (q < gm ∨ gm + 1 + 1 < q)) vo m.opts)
    (h4 : W.heap[gm + 1]? = some (.cells #[.int .u16 code, .string data] 42 (0, 0))) (h5 : W.heap[gm + 1 + 1]? = some (.cells #[.int .i64 0, .int .u32 0, .string (⟨#[]⟩ : ByteArray), .string (⟨#[]⟩ : ByteArray), .slice none 0 0, .int .i64 0, .bool false, .bool false, .int .i64 0, .slice none 0 0] 26 (0, 0))) (h7 : B ≤ gm ∧ w0.heap.size ≤ gm) (h8 : ∀ q, q < w0.heap.size → ¬ S q → W.heap[q]? = w0.heap[q]?) (hx : some (gm + 1) ≠ vo.ownBlock) (hr : Kd.R k42 42 W1 B (fun q => S q ∧ (q < gm ∨ gm + 1 + 1 < q)) v1 l) (hb : Below B w0 W1) (hg : W.grownBy W1 vo.ownBlock) : O1 w0 B gm S { m with opts := l } code data (W1.setCell ⟨gm, 9, none⟩ v1) := by
  have hk := blk_grown h1 hg (Kd.R_ne h3 h1 (by decide))
  have hn : ∀ q o, W1.heap[q]? = some o → q ≠ gm → (W1.setCell ⟨gm, 9, none⟩ v1).heap[q]? = some o := fun q o hq hne => (Below.heap_setCell W1 ⟨gm, 9, none⟩ v1 q hne).trans hq
  exact ⟨⟨vi, v1, blk_put hk 9 v1 rfl, Kd.R_set (Kd.R_over h2 h3 (by decide) hg) hk (by decide) 9 v1, Kd.R_set hr hk (by decide) 9 v1⟩, hn _ _ (blk_grown h4 hg hx) (by omega), hn _ _ (blk_grown h5 hg (Kd.R_ne h3 h5 (by decide))) (by omega), hb.setCell h7.1 v1, h7, fun q hq hs => (Below.heap_setCell W1 ⟨gm, 9, none⟩ v1 q (show q ≠ gm by omega)).trans ((hg.block q (by have := blk_lt h1; omega) (fun e => hs (h3.1 q e.symm).1)).trans (h8 q hq hs))⟩
def tenancyref16_one.f (k : Nat) (m : Ms) (code : Int) (data : ByteArray) : Option (Ms × Int) :=
  if code = 1 ∨ code = 2 then (if (data.size : Int) < 1 ∨ (data.size : Int) > 130 then some (m, 130) else if code = 1 then some ({ m with cl := data }, 0) else some ({ m with sv := data }, 0))
  else if code = 13 then (tenancyref15_GetStatus.f k data).bind fun p => if p.2 = true then some ({ m with code := p.1 }, 0) else some (m, 130)
  else if code = 14 ∨ code = 20 then (if data.toList = ([] : List UInt8) then some ({ m with rap := m.rap || code == 14, acc := m.acc || code == 20 }, 0) else some (m, 130))
  else if code = 19 then (if (data.size : Int) = 1 then (if bt data 0 = 5 ∨ bt data 0 = 6 ∨ bt data 0 = 11 then some ({ m with again := bt data 0 }, 0) else some (m, 130)) else some (m, 130))
  else if code = 3 ∨ code = 4 ∨ code = 25 then (if m.ias.length < 8 then (tenancyref15_GetIA.f k code data).bind fun p => if p.2.2.2.2.2.2 = 0 then some ({ m with ias := m.ias ++ [⟨p.1, p.2.1, p.2.2.1, p.2.2.2.1, p.2.2.2.2.1, p.2.2.2.2.2.1⟩] }, 0) else some (m, p.2.2.2.2.2.2) else some (m, 6))
  else if m.opts.length < 1000000 then some ({ m with opts := m.opts ++ [⟨code, data⟩] }, 0) else none
set_option maxHeartbeats 8000000 in
set_option maxRecDepth 100000 in
theorem tenancyref16_one.calls (k : Nat) (B : Nat) (m m' : Ms) (code : Int) (data : ByteArray) (r : Int) (vi vo : Value) (w : World) (hB : B ≤ w.heap.size) (S : Nat → Prop) (hS : ∀ q, w.heap.size ≤ q → S q) (hri : Kd.R k51 51 w B S vi m.ias) (hro : Kd.R k42 42 w B S vo m.opts) (hsz : data.size ≤ 9223372036854775807) (h : tenancyref16_one.f k m code data = some (m', r)) :
    Calls Try.prog 34 #[.agg (m.row vi vo), .agg #[.int .u16 code, .string data]] w fun e w' => ∃ vi' vo', e = .returned (.tuple #[.agg (m'.row vi' vo'), .int .i64 r]) ∧ Kd.R k51 51 w' B S vi' m'.ias ∧ Kd.R k42 42 w' B S vo' m'.opts ∧ Below B w w' ∧ ∀ q, q < w.heap.size → ¬ S q → w'.heap[q]? = w.heap[q]? := by
  have hu26 := Try.underlying26
  have hu42 := Try.underlying42
  have hu51 := Try.underlying51
  have hi26 : (Try.prog.info? 26).map (·.size) = some 10 := by kernel_rfl
  unfold tenancyref16_one.f at h
  have HS : Aside0 (∀ q, w.heap.size ≤ q → S q) := ⟨hS⟩
  have HI : Aside0 (O1 w B w.heap.size S m code data (((w.alloc (.cells (m.row vi vo) 26)).alloc (.cells #[.int .u16 code, .string data] 42)).alloc (.cells #[.int .i64 0, .int .u32 0, .string (⟨#[]⟩ : ByteArray), .string (⟨#[]⟩ : ByteArray), .slice none 0 0, .int .i64 0, .bool false, .bool false, .int .i64 0, .slice none 0 0] 26))) := ⟨by
    have r1 := Kd.R_mono (Kd.R_bound hri) (ok' := fun q => S q ∧ (q < w.heap.size ∨ w.heap.size + 1 + 1 < q)) (fun q hq => ⟨hq.1, .inl hq.2.2.1⟩)
    have r2 := Kd.R_mono (Kd.R_bound hro) (ok' := fun q => S q ∧ (q < w.heap.size ∨ w.heap.size + 1 + 1 < q)) (fun q hq => ⟨hq.1, .inl hq.2.2.1⟩)
    have b1 := blk_new w (.cells (m.row vi vo) 26)
    have b2 := blk_new (w.alloc (.cells (m.row vi vo) 26)) (.cells #[.int .u16 code, .string data] 42)
    have b3 := blk_new ((w.alloc (.cells (m.row vi vo) 26)).alloc (.cells #[.int .u16 code, .string data] 42)) (.cells #[.int .i64 0, .int .u32 0, .string (⟨#[]⟩ : ByteArray), .string (⟨#[]⟩ : ByteArray), .slice none 0 0, .int .i64 0, .bool false, .bool false, .int .i64 0, .slice none 0 0] 26)
    simp only [World.size_alloc] at b2 b3
    exact ⟨⟨vi, vo, blk_alloc (blk_alloc b1 _) _, Kd.R_alloc (Kd.R_alloc (Kd.R_alloc r1 _) _) _, Kd.R_alloc (Kd.R_alloc (Kd.R_alloc r2 _) _) _⟩, blk_alloc b2 _, b3, (((Below.refl B w).alloc hB _).alloc (by rw [World.size_alloc]; omega) _).alloc (by rw [World.size_alloc, World.size_alloc]; omega) _, ⟨hB, Nat.le_refl _⟩, fun q hq _ => (below_alloc (below_alloc (below_alloc (Below.refl _ w) _) _) _).block q hq⟩⟩
  obtain ⟨Ai, ci, rfl⟩ := Kd.R_slice hri
  obtain ⟨Ao, co, rfl⟩ := Kd.R_slice hro
  clear hri hro
  go_enter Try.func34, Try.ntmps34
  go_upto_region 1 with fail
  have HW0 : Aside0 (w.heap.size + 3 ≤ (((w.alloc (.cells (m.row (.slice Ai m.ias.length ci) (.slice Ao m.opts.length co)) 26)).alloc (.cells #[.int .u16 code, .string data] 42)).alloc (.cells #[.int .i64 0, .int .u32 0, .string (⟨#[]⟩ : ByteArray), .string (⟨#[]⟩ : ByteArray), .slice none 0 0, .int .i64 0, .bool false, .bool false, .int .i64 0, .slice none 0 0] 26)).heap.size) := ⟨by rw [World.size_alloc, World.size_alloc, World.size_alloc]; exact Nat.le_refl _⟩
  generalize (((w.alloc (.cells (m.row (.slice Ai m.ias.length ci) (.slice Ao m.opts.length co)) 26)).alloc (.cells #[.int .u16 code, .string data] 42)).alloc (.cells #[.int .i64 0, .int .u32 0, .string (⟨#[]⟩ : ByteArray), .string (⟨#[]⟩ : ByteArray), .slice none 0 0, .int .i64 0, .bool false, .bool false, .int .i64 0, .slice none 0 0] 26)) = W0 at HI HW0 ⊢
  clear hB hS
  generalize w.heap.size = gm at HI HW0 HS ⊢
  have ho0 : World.cell? W0 ⟨gm + 1, 0, none⟩ = some (.int .u16 code) := (blk_cell HI.out.bo 0).trans rfl
  have ho1 : World.cell? W0 ⟨gm + 1, 1, none⟩ = some (.string data) := (blk_cell HI.out.bo 1).trans rfl
  by_cases c1 : code = 1
  · subst c1
    rw [if_pos (.inl rfl)] at h
    by_cases g1 : (data.size : Int) < 1
    · rw [if_pos (.inl g1)] at h
      have hmm := Option.some.inj h
      injection hmm with hm1 hr1
      subst hm1 hr1
      clear h
      go_upto_region 6 with fail
      obtain ⟨⟨vi2, vo2, hb2, hr2, hs2⟩, hbo2, hbr2, hbel2, hlow2, hfrm2⟩ := HI.out
      have R2 := Aside0.mk hr2
      have S2 := Aside0.mk hs2
      have BM2 := Aside0.mk hb2
      have BR2 := Aside0.mk hbr2
      have HB2 := Aside0.mk hbel2
      have LO2 := Aside0.mk hlow2
      have FR2 := Aside0.mk hfrm2
      clear hb2 hr2 hs2 hbo2 hbr2 hbel2 hlow2 hfrm2
      go_wp2_with (first | ((with_reducible refine gate_dst (N := 31) rfl ?_); refine XBox.loadL_ 31 rfl rfl 26 rfl gm rfl (Ms.row _ vi2 vo2) BM2.out hu26 rfl hi26 ?_) | ((with_reducible refine gate_store (p := 4) rfl ?_); refine XBox.storeL_ rfl rfl 26 rfl (gm + 1 + 1) rfl #[.int .i64 0, .int .u32 0, .string (⟨#[]⟩ : ByteArray), .string (⟨#[]⟩ : ByteArray), .slice none 0 0, .int .i64 0, .bool false, .bool false, .int .i64 0, .slice none 0 0] (Ms.row _ vi2 vo2) rfl BR2.out hi26 (Eq.refl 10) (by obtain ⟨_, _, rfl⟩ := Kd.R_slice R2.out; obtain ⟨_, _, rfl⟩ := Kd.R_slice S2.out; simp [Ms.row, Value.oneCell']) ?_; intro wz hw1 hw2 hw3; have BZ := Aside0.mk hw1; have HZ := Aside0.mk (HB2.out.trans (hw2 B (by have := LO2.out; omega))); have RZ := Aside0.mk (Kd.R_step R2.out (fun q hq hlt => hw3 q (by have := hq.2; omega))); have SZ := Aside0.mk (Kd.R_step S2.out (fun q hq hlt => hw3 q (by have := hq.2; omega))); have FZ := Aside0.mk (fun q (hq : q < w.heap.size) (hs : ¬ S q) => (hw3 q (by have := LO2.out; omega)).trans (FR2.out q hq hs)); clear hw1 hw2 hw3))
      refine bodyPost_ret (results_ct rfl _ _ (gm + 1 + 1) 26 (Ms.row _ vi2 vo2) (0, 0) _ rfl BZ.out hu26 rfl (by kernel_rfl)) rfl ?_
      exact ⟨vi2, vo2, rfl, Kd.R_mono RZ.out (fun _ hq => hq.1), Kd.R_mono SZ.out (fun _ hq => hq.1), HZ.out, FZ.out⟩
    · by_cases g2 : (data.size : Int) > 130
      · rw [if_pos (.inr g2)] at h
        have hmm := Option.some.inj h
        injection hmm with hm1 hr1
        subst hm1 hr1
        clear h
        have g3 : (130 : Int) < (data.size : Int) := g2
        go_upto_region 6 with fail
        obtain ⟨⟨vi2, vo2, hb2, hr2, hs2⟩, hbo2, hbr2, hbel2, hlow2, hfrm2⟩ := HI.out
        have R2 := Aside0.mk hr2
        have S2 := Aside0.mk hs2
        have BM2 := Aside0.mk hb2
        have BR2 := Aside0.mk hbr2
        have HB2 := Aside0.mk hbel2
        have LO2 := Aside0.mk hlow2
        have FR2 := Aside0.mk hfrm2
        clear hb2 hr2 hs2 hbo2 hbr2 hbel2 hlow2 hfrm2
        go_wp2_with (first | ((with_reducible refine gate_dst (N := 31) rfl ?_); refine XBox.loadL_ 31 rfl rfl 26 rfl gm rfl (Ms.row _ vi2 vo2) BM2.out hu26 rfl hi26 ?_) | ((with_reducible refine gate_store (p := 4) rfl ?_); refine XBox.storeL_ rfl rfl 26 rfl (gm + 1 + 1) rfl #[.int .i64 0, .int .u32 0, .string (⟨#[]⟩ : ByteArray), .string (⟨#[]⟩ : ByteArray), .slice none 0 0, .int .i64 0, .bool false, .bool false, .int .i64 0, .slice none 0 0] (Ms.row _ vi2 vo2) rfl BR2.out hi26 (Eq.refl 10) (by obtain ⟨_, _, rfl⟩ := Kd.R_slice R2.out; obtain ⟨_, _, rfl⟩ := Kd.R_slice S2.out; simp [Ms.row, Value.oneCell']) ?_; intro wz hw1 hw2 hw3; have BZ := Aside0.mk hw1; have HZ := Aside0.mk (HB2.out.trans (hw2 B (by have := LO2.out; omega))); have RZ := Aside0.mk (Kd.R_step R2.out (fun q hq hlt => hw3 q (by have := hq.2; omega))); have SZ := Aside0.mk (Kd.R_step S2.out (fun q hq hlt => hw3 q (by have := hq.2; omega))); have FZ := Aside0.mk (fun q (hq : q < w.heap.size) (hs : ¬ S q) => (hw3 q (by have := LO2.out; omega)).trans (FR2.out q hq hs)); clear hw1 hw2 hw3))
        refine bodyPost_ret (results_ct rfl _ _ (gm + 1 + 1) 26 (Ms.row _ vi2 vo2) (0, 0) _ rfl BZ.out hu26 rfl (by kernel_rfl)) rfl ?_
        exact ⟨vi2, vo2, rfl, Kd.R_mono RZ.out (fun _ hq => hq.1), Kd.R_mono SZ.out (fun _ hq => hq.1), HZ.out, FZ.out⟩
      · rw [if_neg (show ¬ ((data.size : Int) < 1 ∨ (data.size : Int) > 130) from fun e => e.elim g1 g2), if_pos rfl] at h
        have hmm := Option.some.inj h
        injection hmm with hm1 hr1
        subst hm1 hr1
        clear h
        have g3 : ¬ (130 : Int) < (data.size : Int) := g2
        obtain ⟨⟨vi0, vo0, hbm0, _, _⟩, _, _, _, _, _⟩ := HI.out
        have hm2 : World.cell? W0 ⟨gm, 2, none⟩ = some (.string m.cl) := (blk_cell hbm0 2).trans rfl
        have hfz2 := blk_frozen hbm0 2
        clear hbm0
        have HK := Aside0.mk (HI.out.set (m' := { m with cl := data }) 2 (.string data) (fun _ _ => rfl) rfl rfl)
        go_upto_region 34 with fail
        generalize World.setCell W0 ⟨gm, 2, none⟩ (.string data) = W1 at HK ⊢
        clear ho0 ho1 hm2 hfz2
        obtain ⟨⟨vi2, vo2, hb2, hr2, hs2⟩, hbo2, hbr2, hbel2, hlow2, hfrm2⟩ := HK.out
        have R2 := Aside0.mk hr2
        have S2 := Aside0.mk hs2
        have BM2 := Aside0.mk hb2
        have BR2 := Aside0.mk hbr2
        have HB2 := Aside0.mk hbel2
        have LO2 := Aside0.mk hlow2
        have FR2 := Aside0.mk hfrm2
        clear hb2 hr2 hs2 hbo2 hbr2 hbel2 hlow2 hfrm2
        go_wp2_with (first | ((with_reducible refine gate_dst (N := 131) rfl ?_); refine XBox.loadL_ 131 rfl rfl 26 rfl gm rfl (Ms.row _ vi2 vo2) BM2.out hu26 rfl hi26 ?_) | ((with_reducible refine gate_store (p := 4) rfl ?_); refine XBox.storeL_ rfl rfl 26 rfl (gm + 1 + 1) rfl #[.int .i64 0, .int .u32 0, .string (⟨#[]⟩ : ByteArray), .string (⟨#[]⟩ : ByteArray), .slice none 0 0, .int .i64 0, .bool false, .bool false, .int .i64 0, .slice none 0 0] (Ms.row _ vi2 vo2) rfl BR2.out hi26 (Eq.refl 10) (by obtain ⟨_, _, rfl⟩ := Kd.R_slice R2.out; obtain ⟨_, _, rfl⟩ := Kd.R_slice S2.out; simp [Ms.row, Value.oneCell']) ?_; intro wz hw1 hw2 hw3; have BZ := Aside0.mk hw1; have HZ := Aside0.mk (HB2.out.trans (hw2 B (by have := LO2.out; omega))); have RZ := Aside0.mk (Kd.R_step R2.out (fun q hq hlt => hw3 q (by have := hq.2; omega))); have SZ := Aside0.mk (Kd.R_step S2.out (fun q hq hlt => hw3 q (by have := hq.2; omega))); have FZ := Aside0.mk (fun q (hq : q < w.heap.size) (hs : ¬ S q) => (hw3 q (by have := LO2.out; omega)).trans (FR2.out q hq hs)); clear hw1 hw2 hw3))
        refine bodyPost_ret (results_ct rfl _ _ (gm + 1 + 1) 26 (Ms.row _ vi2 vo2) (0, 0) _ rfl BZ.out hu26 rfl (by kernel_rfl)) rfl ?_
        exact ⟨vi2, vo2, rfl, Kd.R_mono RZ.out (fun _ hq => hq.1), Kd.R_mono SZ.out (fun _ hq => hq.1), HZ.out, FZ.out⟩
  · by_cases c2 : code = 2
    · subst c2
      rw [if_pos (.inr rfl)] at h
      by_cases g1 : (data.size : Int) < 1
      · rw [if_pos (.inl g1)] at h
        have hmm := Option.some.inj h
        injection hmm with hm1 hr1
        subst hm1 hr1
        clear h
        go_upto_region 6 with fail
        obtain ⟨⟨vi2, vo2, hb2, hr2, hs2⟩, hbo2, hbr2, hbel2, hlow2, hfrm2⟩ := HI.out
        have R2 := Aside0.mk hr2
        have S2 := Aside0.mk hs2
        have BM2 := Aside0.mk hb2
        have BR2 := Aside0.mk hbr2
        have HB2 := Aside0.mk hbel2
        have LO2 := Aside0.mk hlow2
        have FR2 := Aside0.mk hfrm2
        clear hb2 hr2 hs2 hbo2 hbr2 hbel2 hlow2 hfrm2
        go_wp2_with (first | ((with_reducible refine gate_dst (N := 31) rfl ?_); refine XBox.loadL_ 31 rfl rfl 26 rfl gm rfl (Ms.row _ vi2 vo2) BM2.out hu26 rfl hi26 ?_) | ((with_reducible refine gate_store (p := 4) rfl ?_); refine XBox.storeL_ rfl rfl 26 rfl (gm + 1 + 1) rfl #[.int .i64 0, .int .u32 0, .string (⟨#[]⟩ : ByteArray), .string (⟨#[]⟩ : ByteArray), .slice none 0 0, .int .i64 0, .bool false, .bool false, .int .i64 0, .slice none 0 0] (Ms.row _ vi2 vo2) rfl BR2.out hi26 (Eq.refl 10) (by obtain ⟨_, _, rfl⟩ := Kd.R_slice R2.out; obtain ⟨_, _, rfl⟩ := Kd.R_slice S2.out; simp [Ms.row, Value.oneCell']) ?_; intro wz hw1 hw2 hw3; have BZ := Aside0.mk hw1; have HZ := Aside0.mk (HB2.out.trans (hw2 B (by have := LO2.out; omega))); have RZ := Aside0.mk (Kd.R_step R2.out (fun q hq hlt => hw3 q (by have := hq.2; omega))); have SZ := Aside0.mk (Kd.R_step S2.out (fun q hq hlt => hw3 q (by have := hq.2; omega))); have FZ := Aside0.mk (fun q (hq : q < w.heap.size) (hs : ¬ S q) => (hw3 q (by have := LO2.out; omega)).trans (FR2.out q hq hs)); clear hw1 hw2 hw3))
        refine bodyPost_ret (results_ct rfl _ _ (gm + 1 + 1) 26 (Ms.row _ vi2 vo2) (0, 0) _ rfl BZ.out hu26 rfl (by kernel_rfl)) rfl ?_
        exact ⟨vi2, vo2, rfl, Kd.R_mono RZ.out (fun _ hq => hq.1), Kd.R_mono SZ.out (fun _ hq => hq.1), HZ.out, FZ.out⟩
      · by_cases g2 : (data.size : Int) > 130
        · rw [if_pos (.inr g2)] at h
          have hmm := Option.some.inj h
          injection hmm with hm1 hr1
          subst hm1 hr1
          clear h
          have g3 : (130 : Int) < (data.size : Int) := g2
          go_upto_region 6 with fail
          obtain ⟨⟨vi2, vo2, hb2, hr2, hs2⟩, hbo2, hbr2, hbel2, hlow2, hfrm2⟩ := HI.out
          have R2 := Aside0.mk hr2
          have S2 := Aside0.mk hs2
          have BM2 := Aside0.mk hb2
          have BR2 := Aside0.mk hbr2
          have HB2 := Aside0.mk hbel2
          have LO2 := Aside0.mk hlow2
          have FR2 := Aside0.mk hfrm2
          clear hb2 hr2 hs2 hbo2 hbr2 hbel2 hlow2 hfrm2
          go_wp2_with (first | ((with_reducible refine gate_dst (N := 31) rfl ?_); refine XBox.loadL_ 31 rfl rfl 26 rfl gm rfl (Ms.row _ vi2 vo2) BM2.out hu26 rfl hi26 ?_) | ((with_reducible refine gate_store (p := 4) rfl ?_); refine XBox.storeL_ rfl rfl 26 rfl (gm + 1 + 1) rfl #[.int .i64 0, .int .u32 0, .string (⟨#[]⟩ : ByteArray), .string (⟨#[]⟩ : ByteArray), .slice none 0 0, .int .i64 0, .bool false, .bool false, .int .i64 0, .slice none 0 0] (Ms.row _ vi2 vo2) rfl BR2.out hi26 (Eq.refl 10) (by obtain ⟨_, _, rfl⟩ := Kd.R_slice R2.out; obtain ⟨_, _, rfl⟩ := Kd.R_slice S2.out; simp [Ms.row, Value.oneCell']) ?_; intro wz hw1 hw2 hw3; have BZ := Aside0.mk hw1; have HZ := Aside0.mk (HB2.out.trans (hw2 B (by have := LO2.out; omega))); have RZ := Aside0.mk (Kd.R_step R2.out (fun q hq hlt => hw3 q (by have := hq.2; omega))); have SZ := Aside0.mk (Kd.R_step S2.out (fun q hq hlt => hw3 q (by have := hq.2; omega))); have FZ := Aside0.mk (fun q (hq : q < w.heap.size) (hs : ¬ S q) => (hw3 q (by have := LO2.out; omega)).trans (FR2.out q hq hs)); clear hw1 hw2 hw3))
          refine bodyPost_ret (results_ct rfl _ _ (gm + 1 + 1) 26 (Ms.row _ vi2 vo2) (0, 0) _ rfl BZ.out hu26 rfl (by kernel_rfl)) rfl ?_
          exact ⟨vi2, vo2, rfl, Kd.R_mono RZ.out (fun _ hq => hq.1), Kd.R_mono SZ.out (fun _ hq => hq.1), HZ.out, FZ.out⟩
        · rw [if_neg (show ¬ ((data.size : Int) < 1 ∨ (data.size : Int) > 130) from fun e => e.elim g1 g2), if_neg (show ¬ (2 : Int) = 1 by decide)] at h
          have hmm := Option.some.inj h
          injection hmm with hm1 hr1
          subst hm1 hr1
          clear h
          have g3 : ¬ (130 : Int) < (data.size : Int) := g2
          obtain ⟨⟨vi0, vo0, hbm0, _, _⟩, _, _, _, _, _⟩ := HI.out
          have hm3 : World.cell? W0 ⟨gm, 3, none⟩ = some (.string m.sv) := (blk_cell hbm0 3).trans rfl
          have hfz3 := blk_frozen hbm0 3
          clear hbm0
          have HK := Aside0.mk (HI.out.set (m' := { m with sv := data }) 3 (.string data) (fun _ _ => rfl) rfl rfl)
          go_upto_region 34 with fail
          generalize World.setCell W0 ⟨gm, 3, none⟩ (.string data) = W1 at HK ⊢
          clear ho0 ho1 hm3 hfz3
          obtain ⟨⟨vi2, vo2, hb2, hr2, hs2⟩, hbo2, hbr2, hbel2, hlow2, hfrm2⟩ := HK.out
          have R2 := Aside0.mk hr2
          have S2 := Aside0.mk hs2
          have BM2 := Aside0.mk hb2
          have BR2 := Aside0.mk hbr2
          have HB2 := Aside0.mk hbel2
          have LO2 := Aside0.mk hlow2
          have FR2 := Aside0.mk hfrm2
          clear hb2 hr2 hs2 hbo2 hbr2 hbel2 hlow2 hfrm2
          go_wp2_with (first | ((with_reducible refine gate_dst (N := 131) rfl ?_); refine XBox.loadL_ 131 rfl rfl 26 rfl gm rfl (Ms.row _ vi2 vo2) BM2.out hu26 rfl hi26 ?_) | ((with_reducible refine gate_store (p := 4) rfl ?_); refine XBox.storeL_ rfl rfl 26 rfl (gm + 1 + 1) rfl #[.int .i64 0, .int .u32 0, .string (⟨#[]⟩ : ByteArray), .string (⟨#[]⟩ : ByteArray), .slice none 0 0, .int .i64 0, .bool false, .bool false, .int .i64 0, .slice none 0 0] (Ms.row _ vi2 vo2) rfl BR2.out hi26 (Eq.refl 10) (by obtain ⟨_, _, rfl⟩ := Kd.R_slice R2.out; obtain ⟨_, _, rfl⟩ := Kd.R_slice S2.out; simp [Ms.row, Value.oneCell']) ?_; intro wz hw1 hw2 hw3; have BZ := Aside0.mk hw1; have HZ := Aside0.mk (HB2.out.trans (hw2 B (by have := LO2.out; omega))); have RZ := Aside0.mk (Kd.R_step R2.out (fun q hq hlt => hw3 q (by have := hq.2; omega))); have SZ := Aside0.mk (Kd.R_step S2.out (fun q hq hlt => hw3 q (by have := hq.2; omega))); have FZ := Aside0.mk (fun q (hq : q < w.heap.size) (hs : ¬ S q) => (hw3 q (by have := LO2.out; omega)).trans (FR2.out q hq hs)); clear hw1 hw2 hw3))
          refine bodyPost_ret (results_ct rfl _ _ (gm + 1 + 1) 26 (Ms.row _ vi2 vo2) (0, 0) _ rfl BZ.out hu26 rfl (by kernel_rfl)) rfl ?_
          exact ⟨vi2, vo2, rfl, Kd.R_mono RZ.out (fun _ hq => hq.1), Kd.R_mono SZ.out (fun _ hq => hq.1), HZ.out, FZ.out⟩
    · by_cases c13 : code = 13
      · subst c13
        rw [if_neg (by decide), if_pos rfl] at h
        obtain ⟨⟨c, ok⟩, hp, h⟩ := Option.bind_eq_some_iff.1 h
        have HP := Aside0.mk hp
        clear hp
        go_upto_region 12 with (go_at_call 57; refine (tenancyref15_GetStatus.calls k data c ok _ HP.out).mono ?_; rintro e W1 ⟨rfl, hb⟩; have HJ := Aside0.mk (HI.out.below hb.below); clear hb)
        clear ho0 ho1
        cases ok with
        | false =>
          rw [if_neg (by decide)] at h
          have hmm := Option.some.inj h
          injection hmm with hm1 hr1
          subst hm1 hr1
          clear h
          go_upto_region 13 with fail
          obtain ⟨⟨vi2, vo2, hb2, hr2, hs2⟩, hbo2, hbr2, hbel2, hlow2, hfrm2⟩ := HJ.out
          have R2 := Aside0.mk hr2
          have S2 := Aside0.mk hs2
          have BM2 := Aside0.mk hb2
          have BR2 := Aside0.mk hbr2
          have HB2 := Aside0.mk hbel2
          have LO2 := Aside0.mk hlow2
          have FR2 := Aside0.mk hfrm2
          clear hb2 hr2 hs2 hbo2 hbr2 hbel2 hlow2 hfrm2
          go_wp2_with (first | ((with_reducible refine gate_dst (N := 51) rfl ?_); refine XBox.loadL_ 51 rfl rfl 26 rfl gm rfl (Ms.row _ vi2 vo2) BM2.out hu26 rfl hi26 ?_) | ((with_reducible refine gate_store (p := 4) rfl ?_); refine XBox.storeL_ rfl rfl 26 rfl (gm + 1 + 1) rfl #[.int .i64 0, .int .u32 0, .string (⟨#[]⟩ : ByteArray), .string (⟨#[]⟩ : ByteArray), .slice none 0 0, .int .i64 0, .bool false, .bool false, .int .i64 0, .slice none 0 0] (Ms.row _ vi2 vo2) rfl BR2.out hi26 (Eq.refl 10) (by obtain ⟨_, _, rfl⟩ := Kd.R_slice R2.out; obtain ⟨_, _, rfl⟩ := Kd.R_slice S2.out; simp [Ms.row, Value.oneCell']) ?_; intro wz hw1 hw2 hw3; have BZ := Aside0.mk hw1; have HZ := Aside0.mk (HB2.out.trans (hw2 B (by have := LO2.out; omega))); have RZ := Aside0.mk (Kd.R_step R2.out (fun q hq hlt => hw3 q (by have := hq.2; omega))); have SZ := Aside0.mk (Kd.R_step S2.out (fun q hq hlt => hw3 q (by have := hq.2; omega))); have FZ := Aside0.mk (fun q (hq : q < w.heap.size) (hs : ¬ S q) => (hw3 q (by have := LO2.out; omega)).trans (FR2.out q hq hs)); clear hw1 hw2 hw3))
          refine bodyPost_ret (results_ct rfl _ _ (gm + 1 + 1) 26 (Ms.row _ vi2 vo2) (0, 0) _ rfl BZ.out hu26 rfl (by kernel_rfl)) rfl ?_
          exact ⟨vi2, vo2, rfl, Kd.R_mono RZ.out (fun _ hq => hq.1), Kd.R_mono SZ.out (fun _ hq => hq.1), HZ.out, FZ.out⟩
        | true =>
          rw [if_pos rfl] at h
          have hmm := Option.some.inj h
          injection hmm with hm1 hr1
          subst hm1 hr1
          clear h
          obtain ⟨⟨vi0, vo0, hbm0, _, _⟩, _, _, _, _, _⟩ := HJ.out
          have hm5 : World.cell? W1 ⟨gm, 5, none⟩ = some (.int .i64 m.code) := (blk_cell hbm0 5).trans rfl
          have hfz5 := blk_frozen hbm0 5
          clear hbm0
          have HK := Aside0.mk (HJ.out.set (m' := { m with code := c }) 5 (.int .i64 c) (fun _ _ => rfl) rfl rfl)
          go_upto_region 34 with fail
          generalize World.setCell W1 ⟨gm, 5, none⟩ (.int .i64 c) = W2 at HK ⊢
          clear hm5 hfz5
          obtain ⟨⟨vi2, vo2, hb2, hr2, hs2⟩, hbo2, hbr2, hbel2, hlow2, hfrm2⟩ := HK.out
          have R2 := Aside0.mk hr2
          have S2 := Aside0.mk hs2
          have BM2 := Aside0.mk hb2
          have BR2 := Aside0.mk hbr2
          have HB2 := Aside0.mk hbel2
          have LO2 := Aside0.mk hlow2
          have FR2 := Aside0.mk hfrm2
          clear hb2 hr2 hs2 hbo2 hbr2 hbel2 hlow2 hfrm2
          go_wp2_with (first | ((with_reducible refine gate_dst (N := 131) rfl ?_); refine XBox.loadL_ 131 rfl rfl 26 rfl gm rfl (Ms.row _ vi2 vo2) BM2.out hu26 rfl hi26 ?_) | ((with_reducible refine gate_store (p := 4) rfl ?_); refine XBox.storeL_ rfl rfl 26 rfl (gm + 1 + 1) rfl #[.int .i64 0, .int .u32 0, .string (⟨#[]⟩ : ByteArray), .string (⟨#[]⟩ : ByteArray), .slice none 0 0, .int .i64 0, .bool false, .bool false, .int .i64 0, .slice none 0 0] (Ms.row _ vi2 vo2) rfl BR2.out hi26 (Eq.refl 10) (by obtain ⟨_, _, rfl⟩ := Kd.R_slice R2.out; obtain ⟨_, _, rfl⟩ := Kd.R_slice S2.out; simp [Ms.row, Value.oneCell']) ?_; intro wz hw1 hw2 hw3; have BZ := Aside0.mk hw1; have HZ := Aside0.mk (HB2.out.trans (hw2 B (by have := LO2.out; omega))); have RZ := Aside0.mk (Kd.R_step R2.out (fun q hq hlt => hw3 q (by have := hq.2; omega))); have SZ := Aside0.mk (Kd.R_step S2.out (fun q hq hlt => hw3 q (by have := hq.2; omega))); have FZ := Aside0.mk (fun q (hq : q < w.heap.size) (hs : ¬ S q) => (hw3 q (by have := LO2.out; omega)).trans (FR2.out q hq hs)); clear hw1 hw2 hw3))
          refine bodyPost_ret (results_ct rfl _ _ (gm + 1 + 1) 26 (Ms.row _ vi2 vo2) (0, 0) _ rfl BZ.out hu26 rfl (by kernel_rfl)) rfl ?_
          exact ⟨vi2, vo2, rfl, Kd.R_mono RZ.out (fun _ hq => hq.1), Kd.R_mono SZ.out (fun _ hq => hq.1), HZ.out, FZ.out⟩
      · by_cases c14 : code = 14
        · subst c14
          rw [if_neg (by decide), if_neg (by decide), if_pos (.inl rfl)] at h
          by_cases ge : data.toList = ([] : List UInt8)
          · rw [if_pos ge] at h
            have ge0 : (data.toList == ([] : List UInt8)) = true := by rw [ge]; rfl
            have ge1 : (data.toList != ([] : List UInt8)) = false := by rw [ge]; rfl
            have ge2 : data.toList.isEmpty = true := by rw [ge]; rfl
            obtain ⟨⟨vi0, vo0, hbm0, _, _⟩, _, _, _, _, _⟩ := HI.out
            have HM := Aside0.mk hbm0
            clear hbm0
            go_upto_region 19 with fail
            clear ge ge0 ge1 ge2 ho1
            cases hq6 : m.rap with
            | true =>
              cases hq7 : m.acc with
              | true =>
                have e6 : (m.rap || ((14 : Int) == 14)) = true := by rw [hq6]; rfl
                have e7 : (m.acc || ((14 : Int) == 20)) = true := by rw [hq7]; rfl
                rw [e6, e7] at h
                have hmm := Option.some.inj h
                injection hmm with hm1 hr1
                subst hm1 hr1
                clear h
                clear e6 e7
                have hm6 : World.cell? W0 ⟨gm, 6, none⟩ = some (.bool true) := by rw [← hq6]; exact (blk_cell HM.out 6).trans rfl
                have hfz6 := blk_frozen HM.out 6
                have HK := Aside0.mk (HI.out.set (m' := { m with rap := true }) 6 (.bool true) (fun _ _ => rfl) rfl rfl)
                go_upto_region 20 with fail
                generalize World.setCell W0 ⟨gm, 6, none⟩ (.bool true) = W1 at HK ⊢
                obtain ⟨⟨vi1, vo1, hbm1, _, _⟩, hbo1, _, _, _, _⟩ := HK.out
                have hm7 : World.cell? W1 ⟨gm, 7, none⟩ = some (.bool true) := by rw [← hq7]; exact (blk_cell hbm1 7).trans rfl
                have hfz7 := blk_frozen hbm1 7
                have ho0 : World.cell? W1 ⟨gm + 1, 0, none⟩ = some (.int .u16 14) := (blk_cell hbo1 0).trans rfl
                clear hbm1 hbo1 hm6 hfz6
                have HL := Aside0.mk (HK.out.set (m' := { m with rap := true, acc := true }) 7 (.bool true) (fun _ _ => rfl) rfl rfl)
                go_upto_region 34 with fail
                generalize World.setCell W1 ⟨gm, 7, none⟩ (.bool true) = W2 at HL ⊢
                clear hm7 hfz7 ho0 hq6 hq7
                obtain ⟨⟨vi2, vo2, hb2, hr2, hs2⟩, hbo2, hbr2, hbel2, hlow2, hfrm2⟩ := HL.out
                have R2 := Aside0.mk hr2
                have S2 := Aside0.mk hs2
                have BM2 := Aside0.mk hb2
                have BR2 := Aside0.mk hbr2
                have HB2 := Aside0.mk hbel2
                have LO2 := Aside0.mk hlow2
                have FR2 := Aside0.mk hfrm2
                clear hb2 hr2 hs2 hbo2 hbr2 hbel2 hlow2 hfrm2
                go_wp2_with (first | ((with_reducible refine gate_dst (N := 131) rfl ?_); refine XBox.loadL_ 131 rfl rfl 26 rfl gm rfl (Ms.row _ vi2 vo2) BM2.out hu26 rfl hi26 ?_) | ((with_reducible refine gate_store (p := 4) rfl ?_); refine XBox.storeL_ rfl rfl 26 rfl (gm + 1 + 1) rfl #[.int .i64 0, .int .u32 0, .string (⟨#[]⟩ : ByteArray), .string (⟨#[]⟩ : ByteArray), .slice none 0 0, .int .i64 0, .bool false, .bool false, .int .i64 0, .slice none 0 0] (Ms.row _ vi2 vo2) rfl BR2.out hi26 (Eq.refl 10) (by obtain ⟨_, _, rfl⟩ := Kd.R_slice R2.out; obtain ⟨_, _, rfl⟩ := Kd.R_slice S2.out; simp [Ms.row, Value.oneCell']) ?_; intro wz hw1 hw2 hw3; have BZ := Aside0.mk hw1; have HZ := Aside0.mk (HB2.out.trans (hw2 B (by have := LO2.out; omega))); have RZ := Aside0.mk (Kd.R_step R2.out (fun q hq hlt => hw3 q (by have := hq.2; omega))); have SZ := Aside0.mk (Kd.R_step S2.out (fun q hq hlt => hw3 q (by have := hq.2; omega))); have FZ := Aside0.mk (fun q (hq : q < w.heap.size) (hs : ¬ S q) => (hw3 q (by have := LO2.out; omega)).trans (FR2.out q hq hs)); clear hw1 hw2 hw3))
                refine bodyPost_ret (results_ct rfl _ _ (gm + 1 + 1) 26 (Ms.row _ vi2 vo2) (0, 0) _ rfl BZ.out hu26 rfl (by kernel_rfl)) rfl ?_
                exact ⟨vi2, vo2, rfl, Kd.R_mono RZ.out (fun _ hq => hq.1), Kd.R_mono SZ.out (fun _ hq => hq.1), HZ.out, FZ.out⟩
              | false =>
                have e6 : (m.rap || ((14 : Int) == 14)) = true := by rw [hq6]; rfl
                have e7 : (m.acc || ((14 : Int) == 20)) = false := by rw [hq7]; rfl
                rw [e6, e7] at h
                have hmm := Option.some.inj h
                injection hmm with hm1 hr1
                subst hm1 hr1
                clear h
                clear e6 e7
                have hm6 : World.cell? W0 ⟨gm, 6, none⟩ = some (.bool true) := by rw [← hq6]; exact (blk_cell HM.out 6).trans rfl
                have hfz6 := blk_frozen HM.out 6
                have HK := Aside0.mk (HI.out.set (m' := { m with rap := true }) 6 (.bool true) (fun _ _ => rfl) rfl rfl)
                go_upto_region 20 with fail
                generalize World.setCell W0 ⟨gm, 6, none⟩ (.bool true) = W1 at HK ⊢
                obtain ⟨⟨vi1, vo1, hbm1, _, _⟩, hbo1, _, _, _, _⟩ := HK.out
                have hm7 : World.cell? W1 ⟨gm, 7, none⟩ = some (.bool false) := by rw [← hq7]; exact (blk_cell hbm1 7).trans rfl
                have hfz7 := blk_frozen hbm1 7
                have ho0 : World.cell? W1 ⟨gm + 1, 0, none⟩ = some (.int .u16 14) := (blk_cell hbo1 0).trans rfl
                clear hbm1 hbo1 hm6 hfz6
                have HL := Aside0.mk (HK.out.set (m' := { m with rap := true, acc := false }) 7 (.bool false) (fun _ _ => rfl) rfl rfl)
                go_upto_region 34 with fail
                generalize World.setCell W1 ⟨gm, 7, none⟩ (.bool false) = W2 at HL ⊢
                clear hm7 hfz7 ho0 hq6 hq7
                obtain ⟨⟨vi2, vo2, hb2, hr2, hs2⟩, hbo2, hbr2, hbel2, hlow2, hfrm2⟩ := HL.out
                have R2 := Aside0.mk hr2
                have S2 := Aside0.mk hs2
                have BM2 := Aside0.mk hb2
                have BR2 := Aside0.mk hbr2
                have HB2 := Aside0.mk hbel2
                have LO2 := Aside0.mk hlow2
                have FR2 := Aside0.mk hfrm2
                clear hb2 hr2 hs2 hbo2 hbr2 hbel2 hlow2 hfrm2
                go_wp2_with (first | ((with_reducible refine gate_dst (N := 131) rfl ?_); refine XBox.loadL_ 131 rfl rfl 26 rfl gm rfl (Ms.row _ vi2 vo2) BM2.out hu26 rfl hi26 ?_) | ((with_reducible refine gate_store (p := 4) rfl ?_); refine XBox.storeL_ rfl rfl 26 rfl (gm + 1 + 1) rfl #[.int .i64 0, .int .u32 0, .string (⟨#[]⟩ : ByteArray), .string (⟨#[]⟩ : ByteArray), .slice none 0 0, .int .i64 0, .bool false, .bool false, .int .i64 0, .slice none 0 0] (Ms.row _ vi2 vo2) rfl BR2.out hi26 (Eq.refl 10) (by obtain ⟨_, _, rfl⟩ := Kd.R_slice R2.out; obtain ⟨_, _, rfl⟩ := Kd.R_slice S2.out; simp [Ms.row, Value.oneCell']) ?_; intro wz hw1 hw2 hw3; have BZ := Aside0.mk hw1; have HZ := Aside0.mk (HB2.out.trans (hw2 B (by have := LO2.out; omega))); have RZ := Aside0.mk (Kd.R_step R2.out (fun q hq hlt => hw3 q (by have := hq.2; omega))); have SZ := Aside0.mk (Kd.R_step S2.out (fun q hq hlt => hw3 q (by have := hq.2; omega))); have FZ := Aside0.mk (fun q (hq : q < w.heap.size) (hs : ¬ S q) => (hw3 q (by have := LO2.out; omega)).trans (FR2.out q hq hs)); clear hw1 hw2 hw3))
                refine bodyPost_ret (results_ct rfl _ _ (gm + 1 + 1) 26 (Ms.row _ vi2 vo2) (0, 0) _ rfl BZ.out hu26 rfl (by kernel_rfl)) rfl ?_
                exact ⟨vi2, vo2, rfl, Kd.R_mono RZ.out (fun _ hq => hq.1), Kd.R_mono SZ.out (fun _ hq => hq.1), HZ.out, FZ.out⟩
            | false =>
              cases hq7 : m.acc with
              | true =>
                have e6 : (m.rap || ((14 : Int) == 14)) = true := by rw [hq6]; rfl
                have e7 : (m.acc || ((14 : Int) == 20)) = true := by rw [hq7]; rfl
                rw [e6, e7] at h
                have hmm := Option.some.inj h
                injection hmm with hm1 hr1
                subst hm1 hr1
                clear h
                clear e6 e7
                have hm6 : World.cell? W0 ⟨gm, 6, none⟩ = some (.bool false) := by rw [← hq6]; exact (blk_cell HM.out 6).trans rfl
                have hfz6 := blk_frozen HM.out 6
                have HK := Aside0.mk (HI.out.set (m' := { m with rap := true }) 6 (.bool true) (fun _ _ => rfl) rfl rfl)
                go_upto_region 20 with fail
                generalize World.setCell W0 ⟨gm, 6, none⟩ (.bool true) = W1 at HK ⊢
                obtain ⟨⟨vi1, vo1, hbm1, _, _⟩, hbo1, _, _, _, _⟩ := HK.out
                have hm7 : World.cell? W1 ⟨gm, 7, none⟩ = some (.bool true) := by rw [← hq7]; exact (blk_cell hbm1 7).trans rfl
                have hfz7 := blk_frozen hbm1 7
                have ho0 : World.cell? W1 ⟨gm + 1, 0, none⟩ = some (.int .u16 14) := (blk_cell hbo1 0).trans rfl
                clear hbm1 hbo1 hm6 hfz6
                have HL := Aside0.mk (HK.out.set (m' := { m with rap := true, acc := true }) 7 (.bool true) (fun _ _ => rfl) rfl rfl)
                go_upto_region 34 with fail
                generalize World.setCell W1 ⟨gm, 7, none⟩ (.bool true) = W2 at HL ⊢
                clear hm7 hfz7 ho0 hq6 hq7
                obtain ⟨⟨vi2, vo2, hb2, hr2, hs2⟩, hbo2, hbr2, hbel2, hlow2, hfrm2⟩ := HL.out
                have R2 := Aside0.mk hr2
                have S2 := Aside0.mk hs2
                have BM2 := Aside0.mk hb2
                have BR2 := Aside0.mk hbr2
                have HB2 := Aside0.mk hbel2
                have LO2 := Aside0.mk hlow2
                have FR2 := Aside0.mk hfrm2
                clear hb2 hr2 hs2 hbo2 hbr2 hbel2 hlow2 hfrm2
                go_wp2_with (first | ((with_reducible refine gate_dst (N := 131) rfl ?_); refine XBox.loadL_ 131 rfl rfl 26 rfl gm rfl (Ms.row _ vi2 vo2) BM2.out hu26 rfl hi26 ?_) | ((with_reducible refine gate_store (p := 4) rfl ?_); refine XBox.storeL_ rfl rfl 26 rfl (gm + 1 + 1) rfl #[.int .i64 0, .int .u32 0, .string (⟨#[]⟩ : ByteArray), .string (⟨#[]⟩ : ByteArray), .slice none 0 0, .int .i64 0, .bool false, .bool false, .int .i64 0, .slice none 0 0] (Ms.row _ vi2 vo2) rfl BR2.out hi26 (Eq.refl 10) (by obtain ⟨_, _, rfl⟩ := Kd.R_slice R2.out; obtain ⟨_, _, rfl⟩ := Kd.R_slice S2.out; simp [Ms.row, Value.oneCell']) ?_; intro wz hw1 hw2 hw3; have BZ := Aside0.mk hw1; have HZ := Aside0.mk (HB2.out.trans (hw2 B (by have := LO2.out; omega))); have RZ := Aside0.mk (Kd.R_step R2.out (fun q hq hlt => hw3 q (by have := hq.2; omega))); have SZ := Aside0.mk (Kd.R_step S2.out (fun q hq hlt => hw3 q (by have := hq.2; omega))); have FZ := Aside0.mk (fun q (hq : q < w.heap.size) (hs : ¬ S q) => (hw3 q (by have := LO2.out; omega)).trans (FR2.out q hq hs)); clear hw1 hw2 hw3))
                refine bodyPost_ret (results_ct rfl _ _ (gm + 1 + 1) 26 (Ms.row _ vi2 vo2) (0, 0) _ rfl BZ.out hu26 rfl (by kernel_rfl)) rfl ?_
                exact ⟨vi2, vo2, rfl, Kd.R_mono RZ.out (fun _ hq => hq.1), Kd.R_mono SZ.out (fun _ hq => hq.1), HZ.out, FZ.out⟩
              | false =>
                have e6 : (m.rap || ((14 : Int) == 14)) = true := by rw [hq6]; rfl
                have e7 : (m.acc || ((14 : Int) == 20)) = false := by rw [hq7]; rfl
                rw [e6, e7] at h
                have hmm := Option.some.inj h
                injection hmm with hm1 hr1
                subst hm1 hr1
                clear h
                clear e6 e7
                have hm6 : World.cell? W0 ⟨gm, 6, none⟩ = some (.bool false) := by rw [← hq6]; exact (blk_cell HM.out 6).trans rfl
                have hfz6 := blk_frozen HM.out 6
                have HK := Aside0.mk (HI.out.set (m' := { m with rap := true }) 6 (.bool true) (fun _ _ => rfl) rfl rfl)
                go_upto_region 20 with fail
                generalize World.setCell W0 ⟨gm, 6, none⟩ (.bool true) = W1 at HK ⊢
                obtain ⟨⟨vi1, vo1, hbm1, _, _⟩, hbo1, _, _, _, _⟩ := HK.out
                have hm7 : World.cell? W1 ⟨gm, 7, none⟩ = some (.bool false) := by rw [← hq7]; exact (blk_cell hbm1 7).trans rfl
                have hfz7 := blk_frozen hbm1 7
                have ho0 : World.cell? W1 ⟨gm + 1, 0, none⟩ = some (.int .u16 14) := (blk_cell hbo1 0).trans rfl
                clear hbm1 hbo1 hm6 hfz6
                have HL := Aside0.mk (HK.out.set (m' := { m with rap := true, acc := false }) 7 (.bool false) (fun _ _ => rfl) rfl rfl)
                go_upto_region 34 with fail
                generalize World.setCell W1 ⟨gm, 7, none⟩ (.bool false) = W2 at HL ⊢
                clear hm7 hfz7 ho0 hq6 hq7
                obtain ⟨⟨vi2, vo2, hb2, hr2, hs2⟩, hbo2, hbr2, hbel2, hlow2, hfrm2⟩ := HL.out
                have R2 := Aside0.mk hr2
                have S2 := Aside0.mk hs2
                have BM2 := Aside0.mk hb2
                have BR2 := Aside0.mk hbr2
                have HB2 := Aside0.mk hbel2
                have LO2 := Aside0.mk hlow2
                have FR2 := Aside0.mk hfrm2
                clear hb2 hr2 hs2 hbo2 hbr2 hbel2 hlow2 hfrm2
                go_wp2_with (first | ((with_reducible refine gate_dst (N := 131) rfl ?_); refine XBox.loadL_ 131 rfl rfl 26 rfl gm rfl (Ms.row _ vi2 vo2) BM2.out hu26 rfl hi26 ?_) | ((with_reducible refine gate_store (p := 4) rfl ?_); refine XBox.storeL_ rfl rfl 26 rfl (gm + 1 + 1) rfl #[.int .i64 0, .int .u32 0, .string (⟨#[]⟩ : ByteArray), .string (⟨#[]⟩ : ByteArray), .slice none 0 0, .int .i64 0, .bool false, .bool false, .int .i64 0, .slice none 0 0] (Ms.row _ vi2 vo2) rfl BR2.out hi26 (Eq.refl 10) (by obtain ⟨_, _, rfl⟩ := Kd.R_slice R2.out; obtain ⟨_, _, rfl⟩ := Kd.R_slice S2.out; simp [Ms.row, Value.oneCell']) ?_; intro wz hw1 hw2 hw3; have BZ := Aside0.mk hw1; have HZ := Aside0.mk (HB2.out.trans (hw2 B (by have := LO2.out; omega))); have RZ := Aside0.mk (Kd.R_step R2.out (fun q hq hlt => hw3 q (by have := hq.2; omega))); have SZ := Aside0.mk (Kd.R_step S2.out (fun q hq hlt => hw3 q (by have := hq.2; omega))); have FZ := Aside0.mk (fun q (hq : q < w.heap.size) (hs : ¬ S q) => (hw3 q (by have := LO2.out; omega)).trans (FR2.out q hq hs)); clear hw1 hw2 hw3))
                refine bodyPost_ret (results_ct rfl _ _ (gm + 1 + 1) 26 (Ms.row _ vi2 vo2) (0, 0) _ rfl BZ.out hu26 rfl (by kernel_rfl)) rfl ?_
                exact ⟨vi2, vo2, rfl, Kd.R_mono RZ.out (fun _ hq => hq.1), Kd.R_mono SZ.out (fun _ hq => hq.1), HZ.out, FZ.out⟩
          · rw [if_neg ge] at h
            have hmm := Option.some.inj h
            injection hmm with hm1 hr1
            subst hm1 hr1
            clear h
            have ge0 : (data.toList == ([] : List UInt8)) = false := beq_eq_false_iff_ne.mpr ge
            have ge1 : (data.toList != ([] : List UInt8)) = true := bne_iff_ne.mpr ge
            have ge2 : data.toList.isEmpty = false := by cases hq_ : data.toList with | nil => exact absurd hq_ ge | cons _ _ => rfl
            go_upto_region 18 with fail
            obtain ⟨⟨vi2, vo2, hb2, hr2, hs2⟩, hbo2, hbr2, hbel2, hlow2, hfrm2⟩ := HI.out
            have R2 := Aside0.mk hr2
            have S2 := Aside0.mk hs2
            have BM2 := Aside0.mk hb2
            have BR2 := Aside0.mk hbr2
            have HB2 := Aside0.mk hbel2
            have LO2 := Aside0.mk hlow2
            have FR2 := Aside0.mk hfrm2
            clear hb2 hr2 hs2 hbo2 hbr2 hbel2 hlow2 hfrm2
            go_wp2_with (first | ((with_reducible refine gate_dst (N := 60) rfl ?_); refine XBox.loadL_ 60 rfl rfl 26 rfl gm rfl (Ms.row _ vi2 vo2) BM2.out hu26 rfl hi26 ?_) | ((with_reducible refine gate_store (p := 4) rfl ?_); refine XBox.storeL_ rfl rfl 26 rfl (gm + 1 + 1) rfl #[.int .i64 0, .int .u32 0, .string (⟨#[]⟩ : ByteArray), .string (⟨#[]⟩ : ByteArray), .slice none 0 0, .int .i64 0, .bool false, .bool false, .int .i64 0, .slice none 0 0] (Ms.row _ vi2 vo2) rfl BR2.out hi26 (Eq.refl 10) (by obtain ⟨_, _, rfl⟩ := Kd.R_slice R2.out; obtain ⟨_, _, rfl⟩ := Kd.R_slice S2.out; simp [Ms.row, Value.oneCell']) ?_; intro wz hw1 hw2 hw3; have BZ := Aside0.mk hw1; have HZ := Aside0.mk (HB2.out.trans (hw2 B (by have := LO2.out; omega))); have RZ := Aside0.mk (Kd.R_step R2.out (fun q hq hlt => hw3 q (by have := hq.2; omega))); have SZ := Aside0.mk (Kd.R_step S2.out (fun q hq hlt => hw3 q (by have := hq.2; omega))); have FZ := Aside0.mk (fun q (hq : q < w.heap.size) (hs : ¬ S q) => (hw3 q (by have := LO2.out; omega)).trans (FR2.out q hq hs)); clear hw1 hw2 hw3))
            refine bodyPost_ret (results_ct rfl _ _ (gm + 1 + 1) 26 (Ms.row _ vi2 vo2) (0, 0) _ rfl BZ.out hu26 rfl (by kernel_rfl)) rfl ?_
            exact ⟨vi2, vo2, rfl, Kd.R_mono RZ.out (fun _ hq => hq.1), Kd.R_mono SZ.out (fun _ hq => hq.1), HZ.out, FZ.out⟩
        · by_cases c20 : code = 20
          · subst c20
            rw [if_neg (by decide), if_neg (by decide), if_pos (.inr rfl)] at h
            by_cases ge : data.toList = ([] : List UInt8)
            · rw [if_pos ge] at h
              have ge0 : (data.toList == ([] : List UInt8)) = true := by rw [ge]; rfl
              have ge1 : (data.toList != ([] : List UInt8)) = false := by rw [ge]; rfl
              have ge2 : data.toList.isEmpty = true := by rw [ge]; rfl
              obtain ⟨⟨vi0, vo0, hbm0, _, _⟩, _, _, _, _, _⟩ := HI.out
              have HM := Aside0.mk hbm0
              clear hbm0
              go_upto_region 19 with fail
              clear ge ge0 ge1 ge2 ho1
              cases hq6 : m.rap with
              | true =>
                cases hq7 : m.acc with
                | true =>
                  have e6 : (m.rap || ((20 : Int) == 14)) = true := by rw [hq6]; rfl
                  have e7 : (m.acc || ((20 : Int) == 20)) = true := by rw [hq7]; rfl
                  rw [e6, e7] at h
                  have hmm := Option.some.inj h
                  injection hmm with hm1 hr1
                  subst hm1 hr1
                  clear h
                  clear e6 e7
                  have hm6 : World.cell? W0 ⟨gm, 6, none⟩ = some (.bool true) := by rw [← hq6]; exact (blk_cell HM.out 6).trans rfl
                  have hfz6 := blk_frozen HM.out 6
                  have HK := Aside0.mk (HI.out.set (m' := { m with rap := true }) 6 (.bool true) (fun _ _ => rfl) rfl rfl)
                  go_upto_region 20 with fail
                  generalize World.setCell W0 ⟨gm, 6, none⟩ (.bool true) = W1 at HK ⊢
                  obtain ⟨⟨vi1, vo1, hbm1, _, _⟩, hbo1, _, _, _, _⟩ := HK.out
                  have hm7 : World.cell? W1 ⟨gm, 7, none⟩ = some (.bool true) := by rw [← hq7]; exact (blk_cell hbm1 7).trans rfl
                  have hfz7 := blk_frozen hbm1 7
                  have ho0 : World.cell? W1 ⟨gm + 1, 0, none⟩ = some (.int .u16 20) := (blk_cell hbo1 0).trans rfl
                  clear hbm1 hbo1 hm6 hfz6
                  have HL := Aside0.mk (HK.out.set (m' := { m with rap := true, acc := true }) 7 (.bool true) (fun _ _ => rfl) rfl rfl)
                  go_upto_region 34 with fail
                  generalize World.setCell W1 ⟨gm, 7, none⟩ (.bool true) = W2 at HL ⊢
                  clear hm7 hfz7 ho0 hq6 hq7
                  obtain ⟨⟨vi2, vo2, hb2, hr2, hs2⟩, hbo2, hbr2, hbel2, hlow2, hfrm2⟩ := HL.out
                  have R2 := Aside0.mk hr2
                  have S2 := Aside0.mk hs2
                  have BM2 := Aside0.mk hb2
                  have BR2 := Aside0.mk hbr2
                  have HB2 := Aside0.mk hbel2
                  have LO2 := Aside0.mk hlow2
                  have FR2 := Aside0.mk hfrm2
                  clear hb2 hr2 hs2 hbo2 hbr2 hbel2 hlow2 hfrm2
                  go_wp2_with (first | ((with_reducible refine gate_dst (N := 131) rfl ?_); refine XBox.loadL_ 131 rfl rfl 26 rfl gm rfl (Ms.row _ vi2 vo2) BM2.out hu26 rfl hi26 ?_) | ((with_reducible refine gate_store (p := 4) rfl ?_); refine XBox.storeL_ rfl rfl 26 rfl (gm + 1 + 1) rfl #[.int .i64 0, .int .u32 0, .string (⟨#[]⟩ : ByteArray), .string (⟨#[]⟩ : ByteArray), .slice none 0 0, .int .i64 0, .bool false, .bool false, .int .i64 0, .slice none 0 0] (Ms.row _ vi2 vo2) rfl BR2.out hi26 (Eq.refl 10) (by obtain ⟨_, _, rfl⟩ := Kd.R_slice R2.out; obtain ⟨_, _, rfl⟩ := Kd.R_slice S2.out; simp [Ms.row, Value.oneCell']) ?_; intro wz hw1 hw2 hw3; have BZ := Aside0.mk hw1; have HZ := Aside0.mk (HB2.out.trans (hw2 B (by have := LO2.out; omega))); have RZ := Aside0.mk (Kd.R_step R2.out (fun q hq hlt => hw3 q (by have := hq.2; omega))); have SZ := Aside0.mk (Kd.R_step S2.out (fun q hq hlt => hw3 q (by have := hq.2; omega))); have FZ := Aside0.mk (fun q (hq : q < w.heap.size) (hs : ¬ S q) => (hw3 q (by have := LO2.out; omega)).trans (FR2.out q hq hs)); clear hw1 hw2 hw3))
                  refine bodyPost_ret (results_ct rfl _ _ (gm + 1 + 1) 26 (Ms.row _ vi2 vo2) (0, 0) _ rfl BZ.out hu26 rfl (by kernel_rfl)) rfl ?_
                  exact ⟨vi2, vo2, rfl, Kd.R_mono RZ.out (fun _ hq => hq.1), Kd.R_mono SZ.out (fun _ hq => hq.1), HZ.out, FZ.out⟩
                | false =>
                  have e6 : (m.rap || ((20 : Int) == 14)) = true := by rw [hq6]; rfl
                  have e7 : (m.acc || ((20 : Int) == 20)) = true := by rw [hq7]; rfl
                  rw [e6, e7] at h
                  have hmm := Option.some.inj h
                  injection hmm with hm1 hr1
                  subst hm1 hr1
                  clear h
                  clear e6 e7
                  have hm6 : World.cell? W0 ⟨gm, 6, none⟩ = some (.bool true) := by rw [← hq6]; exact (blk_cell HM.out 6).trans rfl
                  have hfz6 := blk_frozen HM.out 6
                  have HK := Aside0.mk (HI.out.set (m' := { m with rap := true }) 6 (.bool true) (fun _ _ => rfl) rfl rfl)
                  go_upto_region 20 with fail
                  generalize World.setCell W0 ⟨gm, 6, none⟩ (.bool true) = W1 at HK ⊢
                  obtain ⟨⟨vi1, vo1, hbm1, _, _⟩, hbo1, _, _, _, _⟩ := HK.out
                  have hm7 : World.cell? W1 ⟨gm, 7, none⟩ = some (.bool false) := by rw [← hq7]; exact (blk_cell hbm1 7).trans rfl
                  have hfz7 := blk_frozen hbm1 7
                  have ho0 : World.cell? W1 ⟨gm + 1, 0, none⟩ = some (.int .u16 20) := (blk_cell hbo1 0).trans rfl
                  clear hbm1 hbo1 hm6 hfz6
                  have HL := Aside0.mk (HK.out.set (m' := { m with rap := true, acc := true }) 7 (.bool true) (fun _ _ => rfl) rfl rfl)
                  go_upto_region 34 with fail
                  generalize World.setCell W1 ⟨gm, 7, none⟩ (.bool true) = W2 at HL ⊢
                  clear hm7 hfz7 ho0 hq6 hq7
                  obtain ⟨⟨vi2, vo2, hb2, hr2, hs2⟩, hbo2, hbr2, hbel2, hlow2, hfrm2⟩ := HL.out
                  have R2 := Aside0.mk hr2
                  have S2 := Aside0.mk hs2
                  have BM2 := Aside0.mk hb2
                  have BR2 := Aside0.mk hbr2
                  have HB2 := Aside0.mk hbel2
                  have LO2 := Aside0.mk hlow2
                  have FR2 := Aside0.mk hfrm2
                  clear hb2 hr2 hs2 hbo2 hbr2 hbel2 hlow2 hfrm2
                  go_wp2_with (first | ((with_reducible refine gate_dst (N := 131) rfl ?_); refine XBox.loadL_ 131 rfl rfl 26 rfl gm rfl (Ms.row _ vi2 vo2) BM2.out hu26 rfl hi26 ?_) | ((with_reducible refine gate_store (p := 4) rfl ?_); refine XBox.storeL_ rfl rfl 26 rfl (gm + 1 + 1) rfl #[.int .i64 0, .int .u32 0, .string (⟨#[]⟩ : ByteArray), .string (⟨#[]⟩ : ByteArray), .slice none 0 0, .int .i64 0, .bool false, .bool false, .int .i64 0, .slice none 0 0] (Ms.row _ vi2 vo2) rfl BR2.out hi26 (Eq.refl 10) (by obtain ⟨_, _, rfl⟩ := Kd.R_slice R2.out; obtain ⟨_, _, rfl⟩ := Kd.R_slice S2.out; simp [Ms.row, Value.oneCell']) ?_; intro wz hw1 hw2 hw3; have BZ := Aside0.mk hw1; have HZ := Aside0.mk (HB2.out.trans (hw2 B (by have := LO2.out; omega))); have RZ := Aside0.mk (Kd.R_step R2.out (fun q hq hlt => hw3 q (by have := hq.2; omega))); have SZ := Aside0.mk (Kd.R_step S2.out (fun q hq hlt => hw3 q (by have := hq.2; omega))); have FZ := Aside0.mk (fun q (hq : q < w.heap.size) (hs : ¬ S q) => (hw3 q (by have := LO2.out; omega)).trans (FR2.out q hq hs)); clear hw1 hw2 hw3))
                  refine bodyPost_ret (results_ct rfl _ _ (gm + 1 + 1) 26 (Ms.row _ vi2 vo2) (0, 0) _ rfl BZ.out hu26 rfl (by kernel_rfl)) rfl ?_
                  exact ⟨vi2, vo2, rfl, Kd.R_mono RZ.out (fun _ hq => hq.1), Kd.R_mono SZ.out (fun _ hq => hq.1), HZ.out, FZ.out⟩
              | false =>
                cases hq7 : m.acc with
                | true =>
                  have e6 : (m.rap || ((20 : Int) == 14)) = false := by rw [hq6]; rfl
                  have e7 : (m.acc || ((20 : Int) == 20)) = true := by rw [hq7]; rfl
                  rw [e6, e7] at h
                  have hmm := Option.some.inj h
                  injection hmm with hm1 hr1
                  subst hm1 hr1
                  clear h
                  clear e6 e7
                  have hm6 : World.cell? W0 ⟨gm, 6, none⟩ = some (.bool false) := by rw [← hq6]; exact (blk_cell HM.out 6).trans rfl
                  have hfz6 := blk_frozen HM.out 6
                  have HK := Aside0.mk (HI.out.set (m' := { m with rap := false }) 6 (.bool false) (fun _ _ => rfl) rfl rfl)
                  go_upto_region 20 with fail
                  generalize World.setCell W0 ⟨gm, 6, none⟩ (.bool false) = W1 at HK ⊢
                  obtain ⟨⟨vi1, vo1, hbm1, _, _⟩, hbo1, _, _, _, _⟩ := HK.out
                  have hm7 : World.cell? W1 ⟨gm, 7, none⟩ = some (.bool true) := by rw [← hq7]; exact (blk_cell hbm1 7).trans rfl
                  have hfz7 := blk_frozen hbm1 7
                  have ho0 : World.cell? W1 ⟨gm + 1, 0, none⟩ = some (.int .u16 20) := (blk_cell hbo1 0).trans rfl
                  clear hbm1 hbo1 hm6 hfz6
                  have HL := Aside0.mk (HK.out.set (m' := { m with rap := false, acc := true }) 7 (.bool true) (fun _ _ => rfl) rfl rfl)
                  go_upto_region 34 with fail
                  generalize World.setCell W1 ⟨gm, 7, none⟩ (.bool true) = W2 at HL ⊢
                  clear hm7 hfz7 ho0 hq6 hq7
                  obtain ⟨⟨vi2, vo2, hb2, hr2, hs2⟩, hbo2, hbr2, hbel2, hlow2, hfrm2⟩ := HL.out
                  have R2 := Aside0.mk hr2
                  have S2 := Aside0.mk hs2
                  have BM2 := Aside0.mk hb2
                  have BR2 := Aside0.mk hbr2
                  have HB2 := Aside0.mk hbel2
                  have LO2 := Aside0.mk hlow2
                  have FR2 := Aside0.mk hfrm2
                  clear hb2 hr2 hs2 hbo2 hbr2 hbel2 hlow2 hfrm2
                  go_wp2_with (first | ((with_reducible refine gate_dst (N := 131) rfl ?_); refine XBox.loadL_ 131 rfl rfl 26 rfl gm rfl (Ms.row _ vi2 vo2) BM2.out hu26 rfl hi26 ?_) | ((with_reducible refine gate_store (p := 4) rfl ?_); refine XBox.storeL_ rfl rfl 26 rfl (gm + 1 + 1) rfl #[.int .i64 0, .int .u32 0, .string (⟨#[]⟩ : ByteArray), .string (⟨#[]⟩ : ByteArray), .slice none 0 0, .int .i64 0, .bool false, .bool false, .int .i64 0, .slice none 0 0] (Ms.row _ vi2 vo2) rfl BR2.out hi26 (Eq.refl 10) (by obtain ⟨_, _, rfl⟩ := Kd.R_slice R2.out; obtain ⟨_, _, rfl⟩ := Kd.R_slice S2.out; simp [Ms.row, Value.oneCell']) ?_; intro wz hw1 hw2 hw3; have BZ := Aside0.mk hw1; have HZ := Aside0.mk (HB2.out.trans (hw2 B (by have := LO2.out; omega))); have RZ := Aside0.mk (Kd.R_step R2.out (fun q hq hlt => hw3 q (by have := hq.2; omega))); have SZ := Aside0.mk (Kd.R_step S2.out (fun q hq hlt => hw3 q (by have := hq.2; omega))); have FZ := Aside0.mk (fun q (hq : q < w.heap.size) (hs : ¬ S q) => (hw3 q (by have := LO2.out; omega)).trans (FR2.out q hq hs)); clear hw1 hw2 hw3))
                  refine bodyPost_ret (results_ct rfl _ _ (gm + 1 + 1) 26 (Ms.row _ vi2 vo2) (0, 0) _ rfl BZ.out hu26 rfl (by kernel_rfl)) rfl ?_
                  exact ⟨vi2, vo2, rfl, Kd.R_mono RZ.out (fun _ hq => hq.1), Kd.R_mono SZ.out (fun _ hq => hq.1), HZ.out, FZ.out⟩
                | false =>
                  have e6 : (m.rap || ((20 : Int) == 14)) = false := by rw [hq6]; rfl
                  have e7 : (m.acc || ((20 : Int) == 20)) = true := by rw [hq7]; rfl
                  rw [e6, e7] at h
                  have hmm := Option.some.inj h
                  injection hmm with hm1 hr1
                  subst hm1 hr1
                  clear h
                  clear e6 e7
                  have hm6 : World.cell? W0 ⟨gm, 6, none⟩ = some (.bool false) := by rw [← hq6]; exact (blk_cell HM.out 6).trans rfl
                  have hfz6 := blk_frozen HM.out 6
                  have HK := Aside0.mk (HI.out.set (m' := { m with rap := false }) 6 (.bool false) (fun _ _ => rfl) rfl rfl)
                  go_upto_region 20 with fail
                  generalize World.setCell W0 ⟨gm, 6, none⟩ (.bool false) = W1 at HK ⊢
                  obtain ⟨⟨vi1, vo1, hbm1, _, _⟩, hbo1, _, _, _, _⟩ := HK.out
                  have hm7 : World.cell? W1 ⟨gm, 7, none⟩ = some (.bool false) := by rw [← hq7]; exact (blk_cell hbm1 7).trans rfl
                  have hfz7 := blk_frozen hbm1 7
                  have ho0 : World.cell? W1 ⟨gm + 1, 0, none⟩ = some (.int .u16 20) := (blk_cell hbo1 0).trans rfl
                  clear hbm1 hbo1 hm6 hfz6
                  have HL := Aside0.mk (HK.out.set (m' := { m with rap := false, acc := true }) 7 (.bool true) (fun _ _ => rfl) rfl rfl)
                  go_upto_region 34 with fail
                  generalize World.setCell W1 ⟨gm, 7, none⟩ (.bool true) = W2 at HL ⊢
                  clear hm7 hfz7 ho0 hq6 hq7
                  obtain ⟨⟨vi2, vo2, hb2, hr2, hs2⟩, hbo2, hbr2, hbel2, hlow2, hfrm2⟩ := HL.out
                  have R2 := Aside0.mk hr2
                  have S2 := Aside0.mk hs2
                  have BM2 := Aside0.mk hb2
                  have BR2 := Aside0.mk hbr2
                  have HB2 := Aside0.mk hbel2
                  have LO2 := Aside0.mk hlow2
                  have FR2 := Aside0.mk hfrm2
                  clear hb2 hr2 hs2 hbo2 hbr2 hbel2 hlow2 hfrm2
                  go_wp2_with (first | ((with_reducible refine gate_dst (N := 131) rfl ?_); refine XBox.loadL_ 131 rfl rfl 26 rfl gm rfl (Ms.row _ vi2 vo2) BM2.out hu26 rfl hi26 ?_) | ((with_reducible refine gate_store (p := 4) rfl ?_); refine XBox.storeL_ rfl rfl 26 rfl (gm + 1 + 1) rfl #[.int .i64 0, .int .u32 0, .string (⟨#[]⟩ : ByteArray), .string (⟨#[]⟩ : ByteArray), .slice none 0 0, .int .i64 0, .bool false, .bool false, .int .i64 0, .slice none 0 0] (Ms.row _ vi2 vo2) rfl BR2.out hi26 (Eq.refl 10) (by obtain ⟨_, _, rfl⟩ := Kd.R_slice R2.out; obtain ⟨_, _, rfl⟩ := Kd.R_slice S2.out; simp [Ms.row, Value.oneCell']) ?_; intro wz hw1 hw2 hw3; have BZ := Aside0.mk hw1; have HZ := Aside0.mk (HB2.out.trans (hw2 B (by have := LO2.out; omega))); have RZ := Aside0.mk (Kd.R_step R2.out (fun q hq hlt => hw3 q (by have := hq.2; omega))); have SZ := Aside0.mk (Kd.R_step S2.out (fun q hq hlt => hw3 q (by have := hq.2; omega))); have FZ := Aside0.mk (fun q (hq : q < w.heap.size) (hs : ¬ S q) => (hw3 q (by have := LO2.out; omega)).trans (FR2.out q hq hs)); clear hw1 hw2 hw3))
                  refine bodyPost_ret (results_ct rfl _ _ (gm + 1 + 1) 26 (Ms.row _ vi2 vo2) (0, 0) _ rfl BZ.out hu26 rfl (by kernel_rfl)) rfl ?_
                  exact ⟨vi2, vo2, rfl, Kd.R_mono RZ.out (fun _ hq => hq.1), Kd.R_mono SZ.out (fun _ hq => hq.1), HZ.out, FZ.out⟩
            · rw [if_neg ge] at h
              have hmm := Option.some.inj h
              injection hmm with hm1 hr1
              subst hm1 hr1
              clear h
              have ge0 : (data.toList == ([] : List UInt8)) = false := beq_eq_false_iff_ne.mpr ge
              have ge1 : (data.toList != ([] : List UInt8)) = true := bne_iff_ne.mpr ge
              have ge2 : data.toList.isEmpty = false := by cases hq_ : data.toList with | nil => exact absurd hq_ ge | cons _ _ => rfl
              go_upto_region 18 with fail
              obtain ⟨⟨vi2, vo2, hb2, hr2, hs2⟩, hbo2, hbr2, hbel2, hlow2, hfrm2⟩ := HI.out
              have R2 := Aside0.mk hr2
              have S2 := Aside0.mk hs2
              have BM2 := Aside0.mk hb2
              have BR2 := Aside0.mk hbr2
              have HB2 := Aside0.mk hbel2
              have LO2 := Aside0.mk hlow2
              have FR2 := Aside0.mk hfrm2
              clear hb2 hr2 hs2 hbo2 hbr2 hbel2 hlow2 hfrm2
              go_wp2_with (first | ((with_reducible refine gate_dst (N := 60) rfl ?_); refine XBox.loadL_ 60 rfl rfl 26 rfl gm rfl (Ms.row _ vi2 vo2) BM2.out hu26 rfl hi26 ?_) | ((with_reducible refine gate_store (p := 4) rfl ?_); refine XBox.storeL_ rfl rfl 26 rfl (gm + 1 + 1) rfl #[.int .i64 0, .int .u32 0, .string (⟨#[]⟩ : ByteArray), .string (⟨#[]⟩ : ByteArray), .slice none 0 0, .int .i64 0, .bool false, .bool false, .int .i64 0, .slice none 0 0] (Ms.row _ vi2 vo2) rfl BR2.out hi26 (Eq.refl 10) (by obtain ⟨_, _, rfl⟩ := Kd.R_slice R2.out; obtain ⟨_, _, rfl⟩ := Kd.R_slice S2.out; simp [Ms.row, Value.oneCell']) ?_; intro wz hw1 hw2 hw3; have BZ := Aside0.mk hw1; have HZ := Aside0.mk (HB2.out.trans (hw2 B (by have := LO2.out; omega))); have RZ := Aside0.mk (Kd.R_step R2.out (fun q hq hlt => hw3 q (by have := hq.2; omega))); have SZ := Aside0.mk (Kd.R_step S2.out (fun q hq hlt => hw3 q (by have := hq.2; omega))); have FZ := Aside0.mk (fun q (hq : q < w.heap.size) (hs : ¬ S q) => (hw3 q (by have := LO2.out; omega)).trans (FR2.out q hq hs)); clear hw1 hw2 hw3))
              refine bodyPost_ret (results_ct rfl _ _ (gm + 1 + 1) 26 (Ms.row _ vi2 vo2) (0, 0) _ rfl BZ.out hu26 rfl (by kernel_rfl)) rfl ?_
              exact ⟨vi2, vo2, rfl, Kd.R_mono RZ.out (fun _ hq => hq.1), Kd.R_mono SZ.out (fun _ hq => hq.1), HZ.out, FZ.out⟩
          · by_cases c19 : code = 19
            · subst c19
              rw [if_neg (by decide), if_neg (by decide), if_neg (by decide), if_pos rfl] at h
              by_cases g1 : (data.size : Int) = 1
              · rw [if_pos g1] at h
                have hx0 : ∀ hh : 0 < data.size, ((data[0]'hh).toNat : Int) = bt data 0 := bt_at data 0
                have g0 : 0 < data.size := by omega
                by_cases gb : bt data 0 = 5
                · rw [if_pos (.inl gb)] at h
                  rw [gb] at h
                  have hmm := Option.some.inj h
                  injection hmm with hm1 hr1
                  subst hm1 hr1
                  clear h
                  go_upto_region 24 with fail
                  obtain ⟨⟨vi0, vo0, hbm0, _, _⟩, _, _, _, _, _⟩ := HI.out
                  have hm8 : World.cell? W0 ⟨gm, 8, none⟩ = some (.int .i64 m.again) := (blk_cell hbm0 8).trans rfl
                  have hfz8 := blk_frozen hbm0 8
                  clear hbm0
                  have HK := Aside0.mk (HI.out.set (m' := { m with again := 5 }) 8 (.int .i64 5) (fun _ _ => rfl) rfl rfl)
                  go_upto_region 34 with fail
                  generalize World.setCell W0 ⟨gm, 8, none⟩ (.int .i64 5) = W1 at HK ⊢
                  clear hm8 hfz8
                  obtain ⟨⟨vi2, vo2, hb2, hr2, hs2⟩, hbo2, hbr2, hbel2, hlow2, hfrm2⟩ := HK.out
                  have R2 := Aside0.mk hr2
                  have S2 := Aside0.mk hs2
                  have BM2 := Aside0.mk hb2
                  have BR2 := Aside0.mk hbr2
                  have HB2 := Aside0.mk hbel2
                  have LO2 := Aside0.mk hlow2
                  have FR2 := Aside0.mk hfrm2
                  clear hb2 hr2 hs2 hbo2 hbr2 hbel2 hlow2 hfrm2
                  go_wp2_with (first | ((with_reducible refine gate_dst (N := 131) rfl ?_); refine XBox.loadL_ 131 rfl rfl 26 rfl gm rfl (Ms.row _ vi2 vo2) BM2.out hu26 rfl hi26 ?_) | ((with_reducible refine gate_store (p := 4) rfl ?_); refine XBox.storeL_ rfl rfl 26 rfl (gm + 1 + 1) rfl #[.int .i64 0, .int .u32 0, .string (⟨#[]⟩ : ByteArray), .string (⟨#[]⟩ : ByteArray), .slice none 0 0, .int .i64 0, .bool false, .bool false, .int .i64 0, .slice none 0 0] (Ms.row _ vi2 vo2) rfl BR2.out hi26 (Eq.refl 10) (by obtain ⟨_, _, rfl⟩ := Kd.R_slice R2.out; obtain ⟨_, _, rfl⟩ := Kd.R_slice S2.out; simp [Ms.row, Value.oneCell']) ?_; intro wz hw1 hw2 hw3; have BZ := Aside0.mk hw1; have HZ := Aside0.mk (HB2.out.trans (hw2 B (by have := LO2.out; omega))); have RZ := Aside0.mk (Kd.R_step R2.out (fun q hq hlt => hw3 q (by have := hq.2; omega))); have SZ := Aside0.mk (Kd.R_step S2.out (fun q hq hlt => hw3 q (by have := hq.2; omega))); have FZ := Aside0.mk (fun q (hq : q < w.heap.size) (hs : ¬ S q) => (hw3 q (by have := LO2.out; omega)).trans (FR2.out q hq hs)); clear hw1 hw2 hw3))
                  refine bodyPost_ret (results_ct rfl _ _ (gm + 1 + 1) 26 (Ms.row _ vi2 vo2) (0, 0) _ rfl BZ.out hu26 rfl (by kernel_rfl)) rfl ?_
                  exact ⟨vi2, vo2, rfl, Kd.R_mono RZ.out (fun _ hq => hq.1), Kd.R_mono SZ.out (fun _ hq => hq.1), HZ.out, FZ.out⟩
                · have gb5 := gb
                  clear gb
                  by_cases gb : bt data 0 = 6
                  · rw [if_pos (.inr (.inl gb))] at h
                    rw [gb] at h
                    have hmm := Option.some.inj h
                    injection hmm with hm1 hr1
                    subst hm1 hr1
                    clear h
                    go_upto_region 24 with fail
                    obtain ⟨⟨vi0, vo0, hbm0, _, _⟩, _, _, _, _, _⟩ := HI.out
                    have hm8 : World.cell? W0 ⟨gm, 8, none⟩ = some (.int .i64 m.again) := (blk_cell hbm0 8).trans rfl
                    have hfz8 := blk_frozen hbm0 8
                    clear hbm0
                    have HK := Aside0.mk (HI.out.set (m' := { m with again := 6 }) 8 (.int .i64 6) (fun _ _ => rfl) rfl rfl)
                    go_upto_region 34 with fail
                    generalize World.setCell W0 ⟨gm, 8, none⟩ (.int .i64 6) = W1 at HK ⊢
                    clear hm8 hfz8
                    obtain ⟨⟨vi2, vo2, hb2, hr2, hs2⟩, hbo2, hbr2, hbel2, hlow2, hfrm2⟩ := HK.out
                    have R2 := Aside0.mk hr2
                    have S2 := Aside0.mk hs2
                    have BM2 := Aside0.mk hb2
                    have BR2 := Aside0.mk hbr2
                    have HB2 := Aside0.mk hbel2
                    have LO2 := Aside0.mk hlow2
                    have FR2 := Aside0.mk hfrm2
                    clear hb2 hr2 hs2 hbo2 hbr2 hbel2 hlow2 hfrm2
                    go_wp2_with (first | ((with_reducible refine gate_dst (N := 131) rfl ?_); refine XBox.loadL_ 131 rfl rfl 26 rfl gm rfl (Ms.row _ vi2 vo2) BM2.out hu26 rfl hi26 ?_) | ((with_reducible refine gate_store (p := 4) rfl ?_); refine XBox.storeL_ rfl rfl 26 rfl (gm + 1 + 1) rfl #[.int .i64 0, .int .u32 0, .string (⟨#[]⟩ : ByteArray), .string (⟨#[]⟩ : ByteArray), .slice none 0 0, .int .i64 0, .bool false, .bool false, .int .i64 0, .slice none 0 0] (Ms.row _ vi2 vo2) rfl BR2.out hi26 (Eq.refl 10) (by obtain ⟨_, _, rfl⟩ := Kd.R_slice R2.out; obtain ⟨_, _, rfl⟩ := Kd.R_slice S2.out; simp [Ms.row, Value.oneCell']) ?_; intro wz hw1 hw2 hw3; have BZ := Aside0.mk hw1; have HZ := Aside0.mk (HB2.out.trans (hw2 B (by have := LO2.out; omega))); have RZ := Aside0.mk (Kd.R_step R2.out (fun q hq hlt => hw3 q (by have := hq.2; omega))); have SZ := Aside0.mk (Kd.R_step S2.out (fun q hq hlt => hw3 q (by have := hq.2; omega))); have FZ := Aside0.mk (fun q (hq : q < w.heap.size) (hs : ¬ S q) => (hw3 q (by have := LO2.out; omega)).trans (FR2.out q hq hs)); clear hw1 hw2 hw3))
                    refine bodyPost_ret (results_ct rfl _ _ (gm + 1 + 1) 26 (Ms.row _ vi2 vo2) (0, 0) _ rfl BZ.out hu26 rfl (by kernel_rfl)) rfl ?_
                    exact ⟨vi2, vo2, rfl, Kd.R_mono RZ.out (fun _ hq => hq.1), Kd.R_mono SZ.out (fun _ hq => hq.1), HZ.out, FZ.out⟩
                  · have gb6 := gb
                    clear gb
                    by_cases gb : bt data 0 = 11
                    · rw [if_pos (.inr (.inr gb))] at h
                      rw [gb] at h
                      have hmm := Option.some.inj h
                      injection hmm with hm1 hr1
                      subst hm1 hr1
                      clear h
                      go_upto_region 24 with fail
                      obtain ⟨⟨vi0, vo0, hbm0, _, _⟩, _, _, _, _, _⟩ := HI.out
                      have hm8 : World.cell? W0 ⟨gm, 8, none⟩ = some (.int .i64 m.again) := (blk_cell hbm0 8).trans rfl
                      have hfz8 := blk_frozen hbm0 8
                      clear hbm0
                      have HK := Aside0.mk (HI.out.set (m' := { m with again := 11 }) 8 (.int .i64 11) (fun _ _ => rfl) rfl rfl)
                      go_upto_region 34 with fail
                      generalize World.setCell W0 ⟨gm, 8, none⟩ (.int .i64 11) = W1 at HK ⊢
                      clear hm8 hfz8
                      obtain ⟨⟨vi2, vo2, hb2, hr2, hs2⟩, hbo2, hbr2, hbel2, hlow2, hfrm2⟩ := HK.out
                      have R2 := Aside0.mk hr2
                      have S2 := Aside0.mk hs2
                      have BM2 := Aside0.mk hb2
                      have BR2 := Aside0.mk hbr2
                      have HB2 := Aside0.mk hbel2
                      have LO2 := Aside0.mk hlow2
                      have FR2 := Aside0.mk hfrm2
                      clear hb2 hr2 hs2 hbo2 hbr2 hbel2 hlow2 hfrm2
                      go_wp2_with (first | ((with_reducible refine gate_dst (N := 131) rfl ?_); refine XBox.loadL_ 131 rfl rfl 26 rfl gm rfl (Ms.row _ vi2 vo2) BM2.out hu26 rfl hi26 ?_) | ((with_reducible refine gate_store (p := 4) rfl ?_); refine XBox.storeL_ rfl rfl 26 rfl (gm + 1 + 1) rfl #[.int .i64 0, .int .u32 0, .string (⟨#[]⟩ : ByteArray), .string (⟨#[]⟩ : ByteArray), .slice none 0 0, .int .i64 0, .bool false, .bool false, .int .i64 0, .slice none 0 0] (Ms.row _ vi2 vo2) rfl BR2.out hi26 (Eq.refl 10) (by obtain ⟨_, _, rfl⟩ := Kd.R_slice R2.out; obtain ⟨_, _, rfl⟩ := Kd.R_slice S2.out; simp [Ms.row, Value.oneCell']) ?_; intro wz hw1 hw2 hw3; have BZ := Aside0.mk hw1; have HZ := Aside0.mk (HB2.out.trans (hw2 B (by have := LO2.out; omega))); have RZ := Aside0.mk (Kd.R_step R2.out (fun q hq hlt => hw3 q (by have := hq.2; omega))); have SZ := Aside0.mk (Kd.R_step S2.out (fun q hq hlt => hw3 q (by have := hq.2; omega))); have FZ := Aside0.mk (fun q (hq : q < w.heap.size) (hs : ¬ S q) => (hw3 q (by have := LO2.out; omega)).trans (FR2.out q hq hs)); clear hw1 hw2 hw3))
                      refine bodyPost_ret (results_ct rfl _ _ (gm + 1 + 1) 26 (Ms.row _ vi2 vo2) (0, 0) _ rfl BZ.out hu26 rfl (by kernel_rfl)) rfl ?_
                      exact ⟨vi2, vo2, rfl, Kd.R_mono RZ.out (fun _ hq => hq.1), Kd.R_mono SZ.out (fun _ hq => hq.1), HZ.out, FZ.out⟩
                    · have gb11 := gb
                      clear gb
                      rw [if_neg (fun e => by rcases e with e | e | e; exact gb5 e; exact gb6 e; exact gb11 e)] at h
                      have hmm := Option.some.inj h
                      injection hmm with hm1 hr1
                      subst hm1 hr1
                      clear h
                      have g5 : (bt data 0 != 5) = true := by simpa using gb5
                      have g6 : (bt data 0 != 6) = true := by simpa using gb6
                      have g11 : (bt data 0 != 11) = true := by simpa using gb11
                      have gg5 : (bt data 0 == 5) = false := by simpa using gb5
                      have gg6 : (bt data 0 == 6) = false := by simpa using gb6
                      have gg11 : (bt data 0 == 11) = false := by simpa using gb11
                      go_upto_region 23 with fail
                      obtain ⟨⟨vi2, vo2, hb2, hr2, hs2⟩, hbo2, hbr2, hbel2, hlow2, hfrm2⟩ := HI.out
                      have R2 := Aside0.mk hr2
                      have S2 := Aside0.mk hs2
                      have BM2 := Aside0.mk hb2
                      have BR2 := Aside0.mk hbr2
                      have HB2 := Aside0.mk hbel2
                      have LO2 := Aside0.mk hlow2
                      have FR2 := Aside0.mk hfrm2
                      clear hb2 hr2 hs2 hbo2 hbr2 hbel2 hlow2 hfrm2
                      go_wp2_with (first | ((with_reducible refine gate_dst (N := 101) rfl ?_); refine XBox.loadL_ 101 rfl rfl 26 rfl gm rfl (Ms.row _ vi2 vo2) BM2.out hu26 rfl hi26 ?_) | ((with_reducible refine gate_store (p := 4) rfl ?_); refine XBox.storeL_ rfl rfl 26 rfl (gm + 1 + 1) rfl #[.int .i64 0, .int .u32 0, .string (⟨#[]⟩ : ByteArray), .string (⟨#[]⟩ : ByteArray), .slice none 0 0, .int .i64 0, .bool false, .bool false, .int .i64 0, .slice none 0 0] (Ms.row _ vi2 vo2) rfl BR2.out hi26 (Eq.refl 10) (by obtain ⟨_, _, rfl⟩ := Kd.R_slice R2.out; obtain ⟨_, _, rfl⟩ := Kd.R_slice S2.out; simp [Ms.row, Value.oneCell']) ?_; intro wz hw1 hw2 hw3; have BZ := Aside0.mk hw1; have HZ := Aside0.mk (HB2.out.trans (hw2 B (by have := LO2.out; omega))); have RZ := Aside0.mk (Kd.R_step R2.out (fun q hq hlt => hw3 q (by have := hq.2; omega))); have SZ := Aside0.mk (Kd.R_step S2.out (fun q hq hlt => hw3 q (by have := hq.2; omega))); have FZ := Aside0.mk (fun q (hq : q < w.heap.size) (hs : ¬ S q) => (hw3 q (by have := LO2.out; omega)).trans (FR2.out q hq hs)); clear hw1 hw2 hw3))
                      refine bodyPost_ret (results_ct rfl _ _ (gm + 1 + 1) 26 (Ms.row _ vi2 vo2) (0, 0) _ rfl BZ.out hu26 rfl (by kernel_rfl)) rfl ?_
                      exact ⟨vi2, vo2, rfl, Kd.R_mono RZ.out (fun _ hq => hq.1), Kd.R_mono SZ.out (fun _ hq => hq.1), HZ.out, FZ.out⟩
              · rw [if_neg g1] at h
                have hmm := Option.some.inj h
                injection hmm with hm1 hr1
                subst hm1 hr1
                clear h
                go_upto_region 23 with fail
                obtain ⟨⟨vi2, vo2, hb2, hr2, hs2⟩, hbo2, hbr2, hbel2, hlow2, hfrm2⟩ := HI.out
                have R2 := Aside0.mk hr2
                have S2 := Aside0.mk hs2
                have BM2 := Aside0.mk hb2
                have BR2 := Aside0.mk hbr2
                have HB2 := Aside0.mk hbel2
                have LO2 := Aside0.mk hlow2
                have FR2 := Aside0.mk hfrm2
                clear hb2 hr2 hs2 hbo2 hbr2 hbel2 hlow2 hfrm2
                go_wp2_with (first | ((with_reducible refine gate_dst (N := 101) rfl ?_); refine XBox.loadL_ 101 rfl rfl 26 rfl gm rfl (Ms.row _ vi2 vo2) BM2.out hu26 rfl hi26 ?_) | ((with_reducible refine gate_store (p := 4) rfl ?_); refine XBox.storeL_ rfl rfl 26 rfl (gm + 1 + 1) rfl #[.int .i64 0, .int .u32 0, .string (⟨#[]⟩ : ByteArray), .string (⟨#[]⟩ : ByteArray), .slice none 0 0, .int .i64 0, .bool false, .bool false, .int .i64 0, .slice none 0 0] (Ms.row _ vi2 vo2) rfl BR2.out hi26 (Eq.refl 10) (by obtain ⟨_, _, rfl⟩ := Kd.R_slice R2.out; obtain ⟨_, _, rfl⟩ := Kd.R_slice S2.out; simp [Ms.row, Value.oneCell']) ?_; intro wz hw1 hw2 hw3; have BZ := Aside0.mk hw1; have HZ := Aside0.mk (HB2.out.trans (hw2 B (by have := LO2.out; omega))); have RZ := Aside0.mk (Kd.R_step R2.out (fun q hq hlt => hw3 q (by have := hq.2; omega))); have SZ := Aside0.mk (Kd.R_step S2.out (fun q hq hlt => hw3 q (by have := hq.2; omega))); have FZ := Aside0.mk (fun q (hq : q < w.heap.size) (hs : ¬ S q) => (hw3 q (by have := LO2.out; omega)).trans (FR2.out q hq hs)); clear hw1 hw2 hw3))
                refine bodyPost_ret (results_ct rfl _ _ (gm + 1 + 1) 26 (Ms.row _ vi2 vo2) (0, 0) _ rfl BZ.out hu26 rfl (by kernel_rfl)) rfl ?_
                exact ⟨vi2, vo2, rfl, Kd.R_mono RZ.out (fun _ hq => hq.1), Kd.R_mono SZ.out (fun _ hq => hq.1), HZ.out, FZ.out⟩
            · by_cases c3 : code = 3
              · subst c3
                rw [if_neg (by decide), if_neg (by decide), if_neg (by decide), if_neg (by decide), if_pos (.inl rfl)] at h
                obtain ⟨⟨vi0, vo0, hbm0, hr0, hs0⟩, hbo0, hbr0, hbel0, hlow0, hfrm0⟩ := HI.out
                obtain ⟨Ai0, ci0, rfl⟩ := Kd.R_slice hr0
                have BM := Aside0.mk hbm0
                have RI := Aside0.mk hr0
                have RO := Aside0.mk hs0
                have BO := Aside0.mk hbo0
                have BR := Aside0.mk hbr0
                have HB0 := Aside0.mk hbel0
                have LO0 := Aside0.mk hlow0
                have FR0 := Aside0.mk hfrm0
                clear hfrm0
                have hm4 : World.cell? W0 ⟨gm, 4, none⟩ = some (.slice Ai0 m.ias.length ci0) := (blk_cell hbm0 4).trans rfl
                clear hbm0 hr0 hs0 hbo0 hbr0 hbel0 hlow0
                by_cases g1 : m.ias.length < 8
                · rw [if_pos g1] at h
                  obtain ⟨⟨k1, i1, t1, t2, hl, k2, ee⟩, hp, h⟩ := Option.bind_eq_some_iff.1 h
                  have HP := Aside0.mk hp
                  clear hp
                  have g1z : ¬ (8 : Int) ≤ (m.ias.length : Int) := by omega
                  have GL := Aside0.mk g1
                  clear g1
                  go_upto_region 31 with (go_at_call 58; refine (tenancyref15_GetIA.calls k 3 data k1 i1 t1 t2 hl k2 ee _ HP.out).mono ?_; rintro e W1 ⟨v4, rfl, hr4, hb⟩; obtain ⟨Ah, ch, rfl⟩ := Kd.R_slice hr4; have R4 := Aside0.mk hr4; have B1 := Aside0.mk hb; clear hr4 hb)
                  have R5 := Aside0.mk (Kd.R_alloc (Kd.R_bound R4.out) (.cells #[.int .i64 k1, .int .u32 i1, .int .u32 t1, .int .u32 t2, .slice Ah hl.length ch, .int .i64 k2] 51))
                  have ba := blk_new W1 (.cells #[.int .i64 k1, .int .u32 i1, .int .u32 t1, .int .u32 t2, .slice Ah hl.length ch, .int .i64 k2] 51)
                  have B2 := Aside0.mk (below_alloc B1.out (.cells #[.int .i64 k1, .int .u32 i1, .int .u32 t1, .int .u32 t2, .slice Ah hl.length ch, .int .i64 k2] 51))
                  have GA := Aside0.mk B1.out.size
                  generalize W1.alloc (.cells #[.int .i64 k1, .int .u32 i1, .int .u32 t1, .int .u32 t2, .slice Ah hl.length ch, .int .i64 k2] 51) = W2 at R5 ba B2 ⊢
                  generalize W1.heap.size = ga at ba GA ⊢
                  have BA := Aside0.mk ba
                  have HJ := Aside0.mk (HI.out.below B2.out)
                  clear ba hm4 g1z ho0 ho1 B1 R4 HP
                  by_cases ce : ee = 0
                  · rw [if_pos ce] at h
                    have hmm := Option.some.inj h
                    injection hmm with hm1 hr1
                    subst hm1 hr1
                    clear h
                    subst ce
                    go_upto_region 33 with fail
                    have hlt : ∀ q, Value.ownBlock (.slice Ai0 m.ias.length ci0) = some q → q < W0.heap.size := Kd.R_lt RI.out
                    have RI2 := Aside0.mk (Kd.R_below RI.out B2.out)
                    have RO2 := Aside0.mk (Kd.R_below RO.out B2.out)
                    have BM2 := Aside0.mk (blk_below BM.out B2.out)
                    have BO2 := Aside0.mk (blk_below BO.out B2.out)
                    have BR2 := Aside0.mk (blk_below BR.out B2.out)
                    have HB2 : Aside0 (Below B w W2) := ⟨HB0.out.trans (B2.out.mono (by have := HW0.out; have := LO0.out; omega))⟩
                    have hm4 : World.cell? W2 ⟨gm, 4, none⟩ = some (.slice Ai0 m.ias.length ci0) := (blk_cell BM2.out 4).trans rfl
                    have RH : Aside0 (Kd.R k58 58 W2 B (fun q => (S q ∧ (q < gm ∨ gm + 1 + 1 < q)) ∧ some q ≠ Value.ownBlock (.slice Ai0 m.ias.length ci0)) (.slice Ah hl.length ch) hl) := ⟨Kd.R_lower (Kd.R_mono R5.out (fun q hq => ⟨⟨HS.out q (by have := HW0.out; have := hq.2.1; omega), .inr (by have := HW0.out; have := hq.2.1; omega)⟩, fun e => by have := hlt q e.symm; have := hq.2.1; omega⟩)) (by have := HW0.out; have := LO0.out; omega)⟩
                    have hSZ : Aside0 (B ≤ W2.heap.size ∧ gm + 3 ≤ W2.heap.size) := ⟨by have := HW0.out; have := LO0.out; have := B2.out.size; omega⟩
                    have FRW := Aside0.mk (fun q (hq : q < w.heap.size) (hs : ¬ S q) => (B2.out.block q (by have := HW0.out; have := LO0.out; omega)).trans (FR0.out q hq hs))
                    clear BM RI RO BO BR HB0 R5 hlt B2
                    go_upto_region 34 with (first | ((with_reducible refine gate_dst (N := 127) rfl ?_); refine XBox.loadL_ 127 rfl rfl 51 rfl ga rfl #[.int .i64 k1, .int .u32 i1, .int .u32 t1, .int .u32 t2, .slice Ah hl.length ch, .int .i64 k2] BA.out hu51 rfl (by kernel_rfl) ?_) | ((with_reducible refine gate_builtin (b := .append) (xs := #[.tmp 126, .tmp 128]) rfl ?_); at_builtin; refine Kd.R_append k51 (w0 := w) B rfl (.tmp 126) (.tmp 128) 23 51 (.agg #[(.int .i64 0), (.int .u32 0), (.int .u32 0), (.int .u32 0), (.slice none 0 0), (.int .i64 0)]) 56 rfl Try.underlying23 info51 rfl (by decide) (by omega) (.slice Ai0 m.ias.length ci0) m.ias (⟨k1, i1, t1, t2, hl, k2⟩ : S51) [.int .i64 k1, .int .u32 i1, .int .u32 t1, .int .u32 t2, .slice Ah hl.length ch, .int .i64 k2] (fun q => S q ∧ (q < gm ∨ gm + 1 + 1 < q)) (fun q => (S q ∧ (q < gm ∨ gm + 1 + 1 < q)) ∧ some q ≠ Value.ownBlock (.slice Ai0 m.ias.length ci0)) rfl rfl ?aP (fun _ hk => hk) ?aF ?aO ?aB ?aS ?aL ?_; (case aP => exact k51_mkM _ _ _ (⟨k1, i1, t1, t2, hl, k2⟩ : S51) RH.out); (case aB => exact HB2.out); (case aF => exact (fun q hq => ⟨HS.out q (by have := hSZ.out; omega), .inr (by have := hSZ.out; omega)⟩)); (case aO => exact RI2.out); (case aS => exact hSZ.out.1); (case aL => have := GL.out; omega); intro v1 W3 hr hb hg hat; obtain ⟨An, cn, hv⟩ := Kd.R_slice hr; obtain ⟨ln, hln⟩ : ∃ ln, ln = (m.ias ++ [(⟨k1, i1, t1, t2, hl, k2⟩ : S51)]).length := ⟨_, rfl⟩; rw [← hln] at hv; subst hv; clear hln; have hk3 := blk_grown BM2.out hg (Kd.R_ne RI2.out BM2.out (by decide)); have hm4b : World.cell? W3 ⟨gm, 4, none⟩ = some (.slice Ai0 m.ias.length ci0) := (blk_cell hk3 4).trans rfl; have hfz4b := blk_frozen hk3 4; have HK := Aside0.mk (O1.putIas BM2.out RI2.out RO2.out BO2.out BR2.out LO0.out FRW.out hr hb hg); clear hk3 hr hb hg hat hm4))
                    generalize World.setCell W3 ⟨gm, 4, none⟩ (.slice An ln cn) = W4 at HK ⊢
                    clear BM2 RI2 RO2 BO2 BR2 HB2 RH BA LO0
                    obtain ⟨⟨vi2, vo2, hb2, hr2, hs2⟩, hbo2, hbr2, hbel2, hlow2, hfrm2⟩ := HK.out
                    have R2 := Aside0.mk hr2
                    have S2 := Aside0.mk hs2
                    have BM2 := Aside0.mk hb2
                    have BR2 := Aside0.mk hbr2
                    have HB2 := Aside0.mk hbel2
                    have LO2 := Aside0.mk hlow2
                    have FR2 := Aside0.mk hfrm2
                    clear hb2 hr2 hs2 hbo2 hbr2 hbel2 hlow2 hfrm2
                    go_wp2_with (first | ((with_reducible refine gate_dst (N := 131) rfl ?_); refine XBox.loadL_ 131 rfl rfl 26 rfl gm rfl (Ms.row _ vi2 vo2) BM2.out hu26 rfl hi26 ?_) | ((with_reducible refine gate_store (p := 4) rfl ?_); refine XBox.storeL_ rfl rfl 26 rfl (gm + 1 + 1) rfl #[.int .i64 0, .int .u32 0, .string (⟨#[]⟩ : ByteArray), .string (⟨#[]⟩ : ByteArray), .slice none 0 0, .int .i64 0, .bool false, .bool false, .int .i64 0, .slice none 0 0] (Ms.row _ vi2 vo2) rfl BR2.out hi26 (Eq.refl 10) (by obtain ⟨_, _, rfl⟩ := Kd.R_slice R2.out; obtain ⟨_, _, rfl⟩ := Kd.R_slice S2.out; simp [Ms.row, Value.oneCell']) ?_; intro wz hw1 hw2 hw3; have BZ := Aside0.mk hw1; have HZ := Aside0.mk (HB2.out.trans (hw2 B (by have := LO2.out; omega))); have RZ := Aside0.mk (Kd.R_step R2.out (fun q hq hlt => hw3 q (by have := hq.2; omega))); have SZ := Aside0.mk (Kd.R_step S2.out (fun q hq hlt => hw3 q (by have := hq.2; omega))); have FZ := Aside0.mk (fun q (hq : q < w.heap.size) (hs : ¬ S q) => (hw3 q (by have := LO2.out; omega)).trans (FR2.out q hq hs)); clear hw1 hw2 hw3))
                    refine bodyPost_ret (results_ct rfl _ _ (gm + 1 + 1) 26 (Ms.row _ vi2 vo2) (0, 0) _ rfl BZ.out hu26 rfl (by kernel_rfl)) rfl ?_
                    exact ⟨vi2, vo2, rfl, Kd.R_mono RZ.out (fun _ hq => hq.1), Kd.R_mono SZ.out (fun _ hq => hq.1), HZ.out, FZ.out⟩
                  · rw [if_neg ce] at h
                    have hmm := Option.some.inj h
                    injection hmm with hm1 hr1
                    subst hm1 hr1
                    clear h
                    have ceb : (ee != 0) = true := by simpa using ce
                    go_upto_region 32 with fail
                    clear BM RI RO BO BR HB0 LO0 R5 B2 GA BA
                    obtain ⟨⟨vi2, vo2, hb2, hr2, hs2⟩, hbo2, hbr2, hbel2, hlow2, hfrm2⟩ := HJ.out
                    have R2 := Aside0.mk hr2
                    have S2 := Aside0.mk hs2
                    have BM2 := Aside0.mk hb2
                    have BR2 := Aside0.mk hbr2
                    have HB2 := Aside0.mk hbel2
                    have LO2 := Aside0.mk hlow2
                    have FR2 := Aside0.mk hfrm2
                    clear hb2 hr2 hs2 hbo2 hbr2 hbel2 hlow2 hfrm2
                    go_wp2_with (first | ((with_reducible refine gate_dst (N := 123) rfl ?_); refine XBox.loadL_ 123 rfl rfl 26 rfl gm rfl (Ms.row _ vi2 vo2) BM2.out hu26 rfl hi26 ?_) | ((with_reducible refine gate_store (p := 4) rfl ?_); refine XBox.storeL_ rfl rfl 26 rfl (gm + 1 + 1) rfl #[.int .i64 0, .int .u32 0, .string (⟨#[]⟩ : ByteArray), .string (⟨#[]⟩ : ByteArray), .slice none 0 0, .int .i64 0, .bool false, .bool false, .int .i64 0, .slice none 0 0] (Ms.row _ vi2 vo2) rfl BR2.out hi26 (Eq.refl 10) (by obtain ⟨_, _, rfl⟩ := Kd.R_slice R2.out; obtain ⟨_, _, rfl⟩ := Kd.R_slice S2.out; simp [Ms.row, Value.oneCell']) ?_; intro wz hw1 hw2 hw3; have BZ := Aside0.mk hw1; have HZ := Aside0.mk (HB2.out.trans (hw2 B (by have := LO2.out; omega))); have RZ := Aside0.mk (Kd.R_step R2.out (fun q hq hlt => hw3 q (by have := hq.2; omega))); have SZ := Aside0.mk (Kd.R_step S2.out (fun q hq hlt => hw3 q (by have := hq.2; omega))); have FZ := Aside0.mk (fun q (hq : q < w.heap.size) (hs : ¬ S q) => (hw3 q (by have := LO2.out; omega)).trans (FR2.out q hq hs)); clear hw1 hw2 hw3))
                    refine bodyPost_ret (results_ct rfl _ _ (gm + 1 + 1) 26 (Ms.row _ vi2 vo2) (0, 0) _ rfl BZ.out hu26 rfl (by kernel_rfl)) rfl ?_
                    exact ⟨vi2, vo2, rfl, Kd.R_mono RZ.out (fun _ hq => hq.1), Kd.R_mono SZ.out (fun _ hq => hq.1), HZ.out, FZ.out⟩
                · rw [if_neg g1] at h
                  have hmm := Option.some.inj h
                  injection hmm with hm1 hr1
                  subst hm1 hr1
                  clear h
                  have g1z : (8 : Int) ≤ (m.ias.length : Int) := by omega
                  go_upto_region 29 with fail
                  clear hm4 BM RI RO BO BR HB0 LO0
                  obtain ⟨⟨vi2, vo2, hb2, hr2, hs2⟩, hbo2, hbr2, hbel2, hlow2, hfrm2⟩ := HI.out
                  have R2 := Aside0.mk hr2
                  have S2 := Aside0.mk hs2
                  have BM2 := Aside0.mk hb2
                  have BR2 := Aside0.mk hbr2
                  have HB2 := Aside0.mk hbel2
                  have LO2 := Aside0.mk hlow2
                  have FR2 := Aside0.mk hfrm2
                  clear hb2 hr2 hs2 hbo2 hbr2 hbel2 hlow2 hfrm2
                  go_wp2_with (first | ((with_reducible refine gate_dst (N := 115) rfl ?_); refine XBox.loadL_ 115 rfl rfl 26 rfl gm rfl (Ms.row _ vi2 vo2) BM2.out hu26 rfl hi26 ?_) | ((with_reducible refine gate_store (p := 4) rfl ?_); refine XBox.storeL_ rfl rfl 26 rfl (gm + 1 + 1) rfl #[.int .i64 0, .int .u32 0, .string (⟨#[]⟩ : ByteArray), .string (⟨#[]⟩ : ByteArray), .slice none 0 0, .int .i64 0, .bool false, .bool false, .int .i64 0, .slice none 0 0] (Ms.row _ vi2 vo2) rfl BR2.out hi26 (Eq.refl 10) (by obtain ⟨_, _, rfl⟩ := Kd.R_slice R2.out; obtain ⟨_, _, rfl⟩ := Kd.R_slice S2.out; simp [Ms.row, Value.oneCell']) ?_; intro wz hw1 hw2 hw3; have BZ := Aside0.mk hw1; have HZ := Aside0.mk (HB2.out.trans (hw2 B (by have := LO2.out; omega))); have RZ := Aside0.mk (Kd.R_step R2.out (fun q hq hlt => hw3 q (by have := hq.2; omega))); have SZ := Aside0.mk (Kd.R_step S2.out (fun q hq hlt => hw3 q (by have := hq.2; omega))); have FZ := Aside0.mk (fun q (hq : q < w.heap.size) (hs : ¬ S q) => (hw3 q (by have := LO2.out; omega)).trans (FR2.out q hq hs)); clear hw1 hw2 hw3))
                  refine bodyPost_ret (results_ct rfl _ _ (gm + 1 + 1) 26 (Ms.row _ vi2 vo2) (0, 0) _ rfl BZ.out hu26 rfl (by kernel_rfl)) rfl ?_
                  exact ⟨vi2, vo2, rfl, Kd.R_mono RZ.out (fun _ hq => hq.1), Kd.R_mono SZ.out (fun _ hq => hq.1), HZ.out, FZ.out⟩
              · by_cases c4 : code = 4
                · subst c4
                  rw [if_neg (by decide), if_neg (by decide), if_neg (by decide), if_neg (by decide), if_pos (.inr (.inl rfl))] at h
                  obtain ⟨⟨vi0, vo0, hbm0, hr0, hs0⟩, hbo0, hbr0, hbel0, hlow0, hfrm0⟩ := HI.out
                  obtain ⟨Ai0, ci0, rfl⟩ := Kd.R_slice hr0
                  have BM := Aside0.mk hbm0
                  have RI := Aside0.mk hr0
                  have RO := Aside0.mk hs0
                  have BO := Aside0.mk hbo0
                  have BR := Aside0.mk hbr0
                  have HB0 := Aside0.mk hbel0
                  have LO0 := Aside0.mk hlow0
                  have FR0 := Aside0.mk hfrm0
                  clear hfrm0
                  have hm4 : World.cell? W0 ⟨gm, 4, none⟩ = some (.slice Ai0 m.ias.length ci0) := (blk_cell hbm0 4).trans rfl
                  clear hbm0 hr0 hs0 hbo0 hbr0 hbel0 hlow0
                  by_cases g1 : m.ias.length < 8
                  · rw [if_pos g1] at h
                    obtain ⟨⟨k1, i1, t1, t2, hl, k2, ee⟩, hp, h⟩ := Option.bind_eq_some_iff.1 h
                    have HP := Aside0.mk hp
                    clear hp
                    have g1z : ¬ (8 : Int) ≤ (m.ias.length : Int) := by omega
                    have GL := Aside0.mk g1
                    clear g1
                    go_upto_region 31 with (go_at_call 58; refine (tenancyref15_GetIA.calls k 4 data k1 i1 t1 t2 hl k2 ee _ HP.out).mono ?_; rintro e W1 ⟨v4, rfl, hr4, hb⟩; obtain ⟨Ah, ch, rfl⟩ := Kd.R_slice hr4; have R4 := Aside0.mk hr4; have B1 := Aside0.mk hb; clear hr4 hb)
                    have R5 := Aside0.mk (Kd.R_alloc (Kd.R_bound R4.out) (.cells #[.int .i64 k1, .int .u32 i1, .int .u32 t1, .int .u32 t2, .slice Ah hl.length ch, .int .i64 k2] 51))
                    have ba := blk_new W1 (.cells #[.int .i64 k1, .int .u32 i1, .int .u32 t1, .int .u32 t2, .slice Ah hl.length ch, .int .i64 k2] 51)
                    have B2 := Aside0.mk (below_alloc B1.out (.cells #[.int .i64 k1, .int .u32 i1, .int .u32 t1, .int .u32 t2, .slice Ah hl.length ch, .int .i64 k2] 51))
                    have GA := Aside0.mk B1.out.size
                    generalize W1.alloc (.cells #[.int .i64 k1, .int .u32 i1, .int .u32 t1, .int .u32 t2, .slice Ah hl.length ch, .int .i64 k2] 51) = W2 at R5 ba B2 ⊢
                    generalize W1.heap.size = ga at ba GA ⊢
                    have BA := Aside0.mk ba
                    have HJ := Aside0.mk (HI.out.below B2.out)
                    clear ba hm4 g1z ho0 ho1 B1 R4 HP
                    by_cases ce : ee = 0
                    · rw [if_pos ce] at h
                      have hmm := Option.some.inj h
                      injection hmm with hm1 hr1
                      subst hm1 hr1
                      clear h
                      subst ce
                      go_upto_region 33 with fail
                      have hlt : ∀ q, Value.ownBlock (.slice Ai0 m.ias.length ci0) = some q → q < W0.heap.size := Kd.R_lt RI.out
                      have RI2 := Aside0.mk (Kd.R_below RI.out B2.out)
                      have RO2 := Aside0.mk (Kd.R_below RO.out B2.out)
                      have BM2 := Aside0.mk (blk_below BM.out B2.out)
                      have BO2 := Aside0.mk (blk_below BO.out B2.out)
                      have BR2 := Aside0.mk (blk_below BR.out B2.out)
                      have HB2 : Aside0 (Below B w W2) := ⟨HB0.out.trans (B2.out.mono (by have := HW0.out; have := LO0.out; omega))⟩
                      have hm4 : World.cell? W2 ⟨gm, 4, none⟩ = some (.slice Ai0 m.ias.length ci0) := (blk_cell BM2.out 4).trans rfl
                      have RH : Aside0 (Kd.R k58 58 W2 B (fun q => (S q ∧ (q < gm ∨ gm + 1 + 1 < q)) ∧ some q ≠ Value.ownBlock (.slice Ai0 m.ias.length ci0)) (.slice Ah hl.length ch) hl) := ⟨Kd.R_lower (Kd.R_mono R5.out (fun q hq => ⟨⟨HS.out q (by have := HW0.out; have := hq.2.1; omega), .inr (by have := HW0.out; have := hq.2.1; omega)⟩, fun e => by have := hlt q e.symm; have := hq.2.1; omega⟩)) (by have := HW0.out; have := LO0.out; omega)⟩
                      have hSZ : Aside0 (B ≤ W2.heap.size ∧ gm + 3 ≤ W2.heap.size) := ⟨by have := HW0.out; have := LO0.out; have := B2.out.size; omega⟩
                      have FRW := Aside0.mk (fun q (hq : q < w.heap.size) (hs : ¬ S q) => (B2.out.block q (by have := HW0.out; have := LO0.out; omega)).trans (FR0.out q hq hs))
                      clear BM RI RO BO BR HB0 R5 hlt B2
                      go_upto_region 34 with (first | ((with_reducible refine gate_dst (N := 127) rfl ?_); refine XBox.loadL_ 127 rfl rfl 51 rfl ga rfl #[.int .i64 k1, .int .u32 i1, .int .u32 t1, .int .u32 t2, .slice Ah hl.length ch, .int .i64 k2] BA.out hu51 rfl (by kernel_rfl) ?_) | ((with_reducible refine gate_builtin (b := .append) (xs := #[.tmp 126, .tmp 128]) rfl ?_); at_builtin; refine Kd.R_append k51 (w0 := w) B rfl (.tmp 126) (.tmp 128) 23 51 (.agg #[(.int .i64 0), (.int .u32 0), (.int .u32 0), (.int .u32 0), (.slice none 0 0), (.int .i64 0)]) 56 rfl Try.underlying23 info51 rfl (by decide) (by omega) (.slice Ai0 m.ias.length ci0) m.ias (⟨k1, i1, t1, t2, hl, k2⟩ : S51) [.int .i64 k1, .int .u32 i1, .int .u32 t1, .int .u32 t2, .slice Ah hl.length ch, .int .i64 k2] (fun q => S q ∧ (q < gm ∨ gm + 1 + 1 < q)) (fun q => (S q ∧ (q < gm ∨ gm + 1 + 1 < q)) ∧ some q ≠ Value.ownBlock (.slice Ai0 m.ias.length ci0)) rfl rfl ?aP (fun _ hk => hk) ?aF ?aO ?aB ?aS ?aL ?_; (case aP => exact k51_mkM _ _ _ (⟨k1, i1, t1, t2, hl, k2⟩ : S51) RH.out); (case aB => exact HB2.out); (case aF => exact (fun q hq => ⟨HS.out q (by have := hSZ.out; omega), .inr (by have := hSZ.out; omega)⟩)); (case aO => exact RI2.out); (case aS => exact hSZ.out.1); (case aL => have := GL.out; omega); intro v1 W3 hr hb hg hat; obtain ⟨An, cn, hv⟩ := Kd.R_slice hr; obtain ⟨ln, hln⟩ : ∃ ln, ln = (m.ias ++ [(⟨k1, i1, t1, t2, hl, k2⟩ : S51)]).length := ⟨_, rfl⟩; rw [← hln] at hv; subst hv; clear hln; have hk3 := blk_grown BM2.out hg (Kd.R_ne RI2.out BM2.out (by decide)); have hm4b : World.cell? W3 ⟨gm, 4, none⟩ = some (.slice Ai0 m.ias.length ci0) := (blk_cell hk3 4).trans rfl; have hfz4b := blk_frozen hk3 4; have HK := Aside0.mk (O1.putIas BM2.out RI2.out RO2.out BO2.out BR2.out LO0.out FRW.out hr hb hg); clear hk3 hr hb hg hat hm4))
                      generalize World.setCell W3 ⟨gm, 4, none⟩ (.slice An ln cn) = W4 at HK ⊢
                      clear BM2 RI2 RO2 BO2 BR2 HB2 RH BA LO0
                      obtain ⟨⟨vi2, vo2, hb2, hr2, hs2⟩, hbo2, hbr2, hbel2, hlow2, hfrm2⟩ := HK.out
                      have R2 := Aside0.mk hr2
                      have S2 := Aside0.mk hs2
                      have BM2 := Aside0.mk hb2
                      have BR2 := Aside0.mk hbr2
                      have HB2 := Aside0.mk hbel2
                      have LO2 := Aside0.mk hlow2
                      have FR2 := Aside0.mk hfrm2
                      clear hb2 hr2 hs2 hbo2 hbr2 hbel2 hlow2 hfrm2
                      go_wp2_with (first | ((with_reducible refine gate_dst (N := 131) rfl ?_); refine XBox.loadL_ 131 rfl rfl 26 rfl gm rfl (Ms.row _ vi2 vo2) BM2.out hu26 rfl hi26 ?_) | ((with_reducible refine gate_store (p := 4) rfl ?_); refine XBox.storeL_ rfl rfl 26 rfl (gm + 1 + 1) rfl #[.int .i64 0, .int .u32 0, .string (⟨#[]⟩ : ByteArray), .string (⟨#[]⟩ : ByteArray), .slice none 0 0, .int .i64 0, .bool false, .bool false, .int .i64 0, .slice none 0 0] (Ms.row _ vi2 vo2) rfl BR2.out hi26 (Eq.refl 10) (by obtain ⟨_, _, rfl⟩ := Kd.R_slice R2.out; obtain ⟨_, _, rfl⟩ := Kd.R_slice S2.out; simp [Ms.row, Value.oneCell']) ?_; intro wz hw1 hw2 hw3; have BZ := Aside0.mk hw1; have HZ := Aside0.mk (HB2.out.trans (hw2 B (by have := LO2.out; omega))); have RZ := Aside0.mk (Kd.R_step R2.out (fun q hq hlt => hw3 q (by have := hq.2; omega))); have SZ := Aside0.mk (Kd.R_step S2.out (fun q hq hlt => hw3 q (by have := hq.2; omega))); have FZ := Aside0.mk (fun q (hq : q < w.heap.size) (hs : ¬ S q) => (hw3 q (by have := LO2.out; omega)).trans (FR2.out q hq hs)); clear hw1 hw2 hw3))
                      refine bodyPost_ret (results_ct rfl _ _ (gm + 1 + 1) 26 (Ms.row _ vi2 vo2) (0, 0) _ rfl BZ.out hu26 rfl (by kernel_rfl)) rfl ?_
                      exact ⟨vi2, vo2, rfl, Kd.R_mono RZ.out (fun _ hq => hq.1), Kd.R_mono SZ.out (fun _ hq => hq.1), HZ.out, FZ.out⟩
                    · rw [if_neg ce] at h
                      have hmm := Option.some.inj h
                      injection hmm with hm1 hr1
                      subst hm1 hr1
                      clear h
                      have ceb : (ee != 0) = true := by simpa using ce
                      go_upto_region 32 with fail
                      clear BM RI RO BO BR HB0 LO0 R5 B2 GA BA
                      obtain ⟨⟨vi2, vo2, hb2, hr2, hs2⟩, hbo2, hbr2, hbel2, hlow2, hfrm2⟩ := HJ.out
                      have R2 := Aside0.mk hr2
                      have S2 := Aside0.mk hs2
                      have BM2 := Aside0.mk hb2
                      have BR2 := Aside0.mk hbr2
                      have HB2 := Aside0.mk hbel2
                      have LO2 := Aside0.mk hlow2
                      have FR2 := Aside0.mk hfrm2
                      clear hb2 hr2 hs2 hbo2 hbr2 hbel2 hlow2 hfrm2
                      go_wp2_with (first | ((with_reducible refine gate_dst (N := 123) rfl ?_); refine XBox.loadL_ 123 rfl rfl 26 rfl gm rfl (Ms.row _ vi2 vo2) BM2.out hu26 rfl hi26 ?_) | ((with_reducible refine gate_store (p := 4) rfl ?_); refine XBox.storeL_ rfl rfl 26 rfl (gm + 1 + 1) rfl #[.int .i64 0, .int .u32 0, .string (⟨#[]⟩ : ByteArray), .string (⟨#[]⟩ : ByteArray), .slice none 0 0, .int .i64 0, .bool false, .bool false, .int .i64 0, .slice none 0 0] (Ms.row _ vi2 vo2) rfl BR2.out hi26 (Eq.refl 10) (by obtain ⟨_, _, rfl⟩ := Kd.R_slice R2.out; obtain ⟨_, _, rfl⟩ := Kd.R_slice S2.out; simp [Ms.row, Value.oneCell']) ?_; intro wz hw1 hw2 hw3; have BZ := Aside0.mk hw1; have HZ := Aside0.mk (HB2.out.trans (hw2 B (by have := LO2.out; omega))); have RZ := Aside0.mk (Kd.R_step R2.out (fun q hq hlt => hw3 q (by have := hq.2; omega))); have SZ := Aside0.mk (Kd.R_step S2.out (fun q hq hlt => hw3 q (by have := hq.2; omega))); have FZ := Aside0.mk (fun q (hq : q < w.heap.size) (hs : ¬ S q) => (hw3 q (by have := LO2.out; omega)).trans (FR2.out q hq hs)); clear hw1 hw2 hw3))
                      refine bodyPost_ret (results_ct rfl _ _ (gm + 1 + 1) 26 (Ms.row _ vi2 vo2) (0, 0) _ rfl BZ.out hu26 rfl (by kernel_rfl)) rfl ?_
                      exact ⟨vi2, vo2, rfl, Kd.R_mono RZ.out (fun _ hq => hq.1), Kd.R_mono SZ.out (fun _ hq => hq.1), HZ.out, FZ.out⟩
                  · rw [if_neg g1] at h
                    have hmm := Option.some.inj h
                    injection hmm with hm1 hr1
                    subst hm1 hr1
                    clear h
                    have g1z : (8 : Int) ≤ (m.ias.length : Int) := by omega
                    go_upto_region 29 with fail
                    clear hm4 BM RI RO BO BR HB0 LO0
                    obtain ⟨⟨vi2, vo2, hb2, hr2, hs2⟩, hbo2, hbr2, hbel2, hlow2, hfrm2⟩ := HI.out
                    have R2 := Aside0.mk hr2
                    have S2 := Aside0.mk hs2
                    have BM2 := Aside0.mk hb2
                    have BR2 := Aside0.mk hbr2
                    have HB2 := Aside0.mk hbel2
                    have LO2 := Aside0.mk hlow2
                    have FR2 := Aside0.mk hfrm2
                    clear hb2 hr2 hs2 hbo2 hbr2 hbel2 hlow2 hfrm2
                    go_wp2_with (first | ((with_reducible refine gate_dst (N := 115) rfl ?_); refine XBox.loadL_ 115 rfl rfl 26 rfl gm rfl (Ms.row _ vi2 vo2) BM2.out hu26 rfl hi26 ?_) | ((with_reducible refine gate_store (p := 4) rfl ?_); refine XBox.storeL_ rfl rfl 26 rfl (gm + 1 + 1) rfl #[.int .i64 0, .int .u32 0, .string (⟨#[]⟩ : ByteArray), .string (⟨#[]⟩ : ByteArray), .slice none 0 0, .int .i64 0, .bool false, .bool false, .int .i64 0, .slice none 0 0] (Ms.row _ vi2 vo2) rfl BR2.out hi26 (Eq.refl 10) (by obtain ⟨_, _, rfl⟩ := Kd.R_slice R2.out; obtain ⟨_, _, rfl⟩ := Kd.R_slice S2.out; simp [Ms.row, Value.oneCell']) ?_; intro wz hw1 hw2 hw3; have BZ := Aside0.mk hw1; have HZ := Aside0.mk (HB2.out.trans (hw2 B (by have := LO2.out; omega))); have RZ := Aside0.mk (Kd.R_step R2.out (fun q hq hlt => hw3 q (by have := hq.2; omega))); have SZ := Aside0.mk (Kd.R_step S2.out (fun q hq hlt => hw3 q (by have := hq.2; omega))); have FZ := Aside0.mk (fun q (hq : q < w.heap.size) (hs : ¬ S q) => (hw3 q (by have := LO2.out; omega)).trans (FR2.out q hq hs)); clear hw1 hw2 hw3))
                    refine bodyPost_ret (results_ct rfl _ _ (gm + 1 + 1) 26 (Ms.row _ vi2 vo2) (0, 0) _ rfl BZ.out hu26 rfl (by kernel_rfl)) rfl ?_
                    exact ⟨vi2, vo2, rfl, Kd.R_mono RZ.out (fun _ hq => hq.1), Kd.R_mono SZ.out (fun _ hq => hq.1), HZ.out, FZ.out⟩
                · by_cases c25 : code = 25
                  · subst c25
                    rw [if_neg (by decide), if_neg (by decide), if_neg (by decide), if_neg (by decide), if_pos (.inr (.inr rfl))] at h
                    obtain ⟨⟨vi0, vo0, hbm0, hr0, hs0⟩, hbo0, hbr0, hbel0, hlow0, hfrm0⟩ := HI.out
                    obtain ⟨Ai0, ci0, rfl⟩ := Kd.R_slice hr0
                    have BM := Aside0.mk hbm0
                    have RI := Aside0.mk hr0
                    have RO := Aside0.mk hs0
                    have BO := Aside0.mk hbo0
                    have BR := Aside0.mk hbr0
                    have HB0 := Aside0.mk hbel0
                    have LO0 := Aside0.mk hlow0
                    have FR0 := Aside0.mk hfrm0
                    clear hfrm0
                    have hm4 : World.cell? W0 ⟨gm, 4, none⟩ = some (.slice Ai0 m.ias.length ci0) := (blk_cell hbm0 4).trans rfl
                    clear hbm0 hr0 hs0 hbo0 hbr0 hbel0 hlow0
                    by_cases g1 : m.ias.length < 8
                    · rw [if_pos g1] at h
                      obtain ⟨⟨k1, i1, t1, t2, hl, k2, ee⟩, hp, h⟩ := Option.bind_eq_some_iff.1 h
                      have HP := Aside0.mk hp
                      clear hp
                      have g1z : ¬ (8 : Int) ≤ (m.ias.length : Int) := by omega
                      have GL := Aside0.mk g1
                      clear g1
                      go_upto_region 31 with (go_at_call 58; refine (tenancyref15_GetIA.calls k 25 data k1 i1 t1 t2 hl k2 ee _ HP.out).mono ?_; rintro e W1 ⟨v4, rfl, hr4, hb⟩; obtain ⟨Ah, ch, rfl⟩ := Kd.R_slice hr4; have R4 := Aside0.mk hr4; have B1 := Aside0.mk hb; clear hr4 hb)
                      have R5 := Aside0.mk (Kd.R_alloc (Kd.R_bound R4.out) (.cells #[.int .i64 k1, .int .u32 i1, .int .u32 t1, .int .u32 t2, .slice Ah hl.length ch, .int .i64 k2] 51))
                      have ba := blk_new W1 (.cells #[.int .i64 k1, .int .u32 i1, .int .u32 t1, .int .u32 t2, .slice Ah hl.length ch, .int .i64 k2] 51)
                      have B2 := Aside0.mk (below_alloc B1.out (.cells #[.int .i64 k1, .int .u32 i1, .int .u32 t1, .int .u32 t2, .slice Ah hl.length ch, .int .i64 k2] 51))
                      have GA := Aside0.mk B1.out.size
                      generalize W1.alloc (.cells #[.int .i64 k1, .int .u32 i1, .int .u32 t1, .int .u32 t2, .slice Ah hl.length ch, .int .i64 k2] 51) = W2 at R5 ba B2 ⊢
                      generalize W1.heap.size = ga at ba GA ⊢
                      have BA := Aside0.mk ba
                      have HJ := Aside0.mk (HI.out.below B2.out)
                      clear ba hm4 g1z ho0 ho1 B1 R4 HP
                      by_cases ce : ee = 0
                      · rw [if_pos ce] at h
                        have hmm := Option.some.inj h
                        injection hmm with hm1 hr1
                        subst hm1 hr1
                        clear h
                        subst ce
                        go_upto_region 33 with fail
                        have hlt : ∀ q, Value.ownBlock (.slice Ai0 m.ias.length ci0) = some q → q < W0.heap.size := Kd.R_lt RI.out
                        have RI2 := Aside0.mk (Kd.R_below RI.out B2.out)
                        have RO2 := Aside0.mk (Kd.R_below RO.out B2.out)
                        have BM2 := Aside0.mk (blk_below BM.out B2.out)
                        have BO2 := Aside0.mk (blk_below BO.out B2.out)
                        have BR2 := Aside0.mk (blk_below BR.out B2.out)
                        have HB2 : Aside0 (Below B w W2) := ⟨HB0.out.trans (B2.out.mono (by have := HW0.out; have := LO0.out; omega))⟩
                        have hm4 : World.cell? W2 ⟨gm, 4, none⟩ = some (.slice Ai0 m.ias.length ci0) := (blk_cell BM2.out 4).trans rfl
                        have RH : Aside0 (Kd.R k58 58 W2 B (fun q => (S q ∧ (q < gm ∨ gm + 1 + 1 < q)) ∧ some q ≠ Value.ownBlock (.slice Ai0 m.ias.length ci0)) (.slice Ah hl.length ch) hl) := ⟨Kd.R_lower (Kd.R_mono R5.out (fun q hq => ⟨⟨HS.out q (by have := HW0.out; have := hq.2.1; omega), .inr (by have := HW0.out; have := hq.2.1; omega)⟩, fun e => by have := hlt q e.symm; have := hq.2.1; omega⟩)) (by have := HW0.out; have := LO0.out; omega)⟩
                        have hSZ : Aside0 (B ≤ W2.heap.size ∧ gm + 3 ≤ W2.heap.size) := ⟨by have := HW0.out; have := LO0.out; have := B2.out.size; omega⟩
                        have FRW := Aside0.mk (fun q (hq : q < w.heap.size) (hs : ¬ S q) => (B2.out.block q (by have := HW0.out; have := LO0.out; omega)).trans (FR0.out q hq hs))
                        clear BM RI RO BO BR HB0 R5 hlt B2
                        go_upto_region 34 with (first | ((with_reducible refine gate_dst (N := 127) rfl ?_); refine XBox.loadL_ 127 rfl rfl 51 rfl ga rfl #[.int .i64 k1, .int .u32 i1, .int .u32 t1, .int .u32 t2, .slice Ah hl.length ch, .int .i64 k2] BA.out hu51 rfl (by kernel_rfl) ?_) | ((with_reducible refine gate_builtin (b := .append) (xs := #[.tmp 126, .tmp 128]) rfl ?_); at_builtin; refine Kd.R_append k51 (w0 := w) B rfl (.tmp 126) (.tmp 128) 23 51 (.agg #[(.int .i64 0), (.int .u32 0), (.int .u32 0), (.int .u32 0), (.slice none 0 0), (.int .i64 0)]) 56 rfl Try.underlying23 info51 rfl (by decide) (by omega) (.slice Ai0 m.ias.length ci0) m.ias (⟨k1, i1, t1, t2, hl, k2⟩ : S51) [.int .i64 k1, .int .u32 i1, .int .u32 t1, .int .u32 t2, .slice Ah hl.length ch, .int .i64 k2] (fun q => S q ∧ (q < gm ∨ gm + 1 + 1 < q)) (fun q => (S q ∧ (q < gm ∨ gm + 1 + 1 < q)) ∧ some q ≠ Value.ownBlock (.slice Ai0 m.ias.length ci0)) rfl rfl ?aP (fun _ hk => hk) ?aF ?aO ?aB ?aS ?aL ?_; (case aP => exact k51_mkM _ _ _ (⟨k1, i1, t1, t2, hl, k2⟩ : S51) RH.out); (case aB => exact HB2.out); (case aF => exact (fun q hq => ⟨HS.out q (by have := hSZ.out; omega), .inr (by have := hSZ.out; omega)⟩)); (case aO => exact RI2.out); (case aS => exact hSZ.out.1); (case aL => have := GL.out; omega); intro v1 W3 hr hb hg hat; obtain ⟨An, cn, hv⟩ := Kd.R_slice hr; obtain ⟨ln, hln⟩ : ∃ ln, ln = (m.ias ++ [(⟨k1, i1, t1, t2, hl, k2⟩ : S51)]).length := ⟨_, rfl⟩; rw [← hln] at hv; subst hv; clear hln; have hk3 := blk_grown BM2.out hg (Kd.R_ne RI2.out BM2.out (by decide)); have hm4b : World.cell? W3 ⟨gm, 4, none⟩ = some (.slice Ai0 m.ias.length ci0) := (blk_cell hk3 4).trans rfl; have hfz4b := blk_frozen hk3 4; have HK := Aside0.mk (O1.putIas BM2.out RI2.out RO2.out BO2.out BR2.out LO0.out FRW.out hr hb hg); clear hk3 hr hb hg hat hm4))
                        generalize World.setCell W3 ⟨gm, 4, none⟩ (.slice An ln cn) = W4 at HK ⊢
                        clear BM2 RI2 RO2 BO2 BR2 HB2 RH BA LO0
                        obtain ⟨⟨vi2, vo2, hb2, hr2, hs2⟩, hbo2, hbr2, hbel2, hlow2, hfrm2⟩ := HK.out
                        have R2 := Aside0.mk hr2
                        have S2 := Aside0.mk hs2
                        have BM2 := Aside0.mk hb2
                        have BR2 := Aside0.mk hbr2
                        have HB2 := Aside0.mk hbel2
                        have LO2 := Aside0.mk hlow2
                        have FR2 := Aside0.mk hfrm2
                        clear hb2 hr2 hs2 hbo2 hbr2 hbel2 hlow2 hfrm2
                        go_wp2_with (first | ((with_reducible refine gate_dst (N := 131) rfl ?_); refine XBox.loadL_ 131 rfl rfl 26 rfl gm rfl (Ms.row _ vi2 vo2) BM2.out hu26 rfl hi26 ?_) | ((with_reducible refine gate_store (p := 4) rfl ?_); refine XBox.storeL_ rfl rfl 26 rfl (gm + 1 + 1) rfl #[.int .i64 0, .int .u32 0, .string (⟨#[]⟩ : ByteArray), .string (⟨#[]⟩ : ByteArray), .slice none 0 0, .int .i64 0, .bool false, .bool false, .int .i64 0, .slice none 0 0] (Ms.row _ vi2 vo2) rfl BR2.out hi26 (Eq.refl 10) (by obtain ⟨_, _, rfl⟩ := Kd.R_slice R2.out; obtain ⟨_, _, rfl⟩ := Kd.R_slice S2.out; simp [Ms.row, Value.oneCell']) ?_; intro wz hw1 hw2 hw3; have BZ := Aside0.mk hw1; have HZ := Aside0.mk (HB2.out.trans (hw2 B (by have := LO2.out; omega))); have RZ := Aside0.mk (Kd.R_step R2.out (fun q hq hlt => hw3 q (by have := hq.2; omega))); have SZ := Aside0.mk (Kd.R_step S2.out (fun q hq hlt => hw3 q (by have := hq.2; omega))); have FZ := Aside0.mk (fun q (hq : q < w.heap.size) (hs : ¬ S q) => (hw3 q (by have := LO2.out; omega)).trans (FR2.out q hq hs)); clear hw1 hw2 hw3))
                        refine bodyPost_ret (results_ct rfl _ _ (gm + 1 + 1) 26 (Ms.row _ vi2 vo2) (0, 0) _ rfl BZ.out hu26 rfl (by kernel_rfl)) rfl ?_
                        exact ⟨vi2, vo2, rfl, Kd.R_mono RZ.out (fun _ hq => hq.1), Kd.R_mono SZ.out (fun _ hq => hq.1), HZ.out, FZ.out⟩
                      · rw [if_neg ce] at h
                        have hmm := Option.some.inj h
                        injection hmm with hm1 hr1
                        subst hm1 hr1
                        clear h
                        have ceb : (ee != 0) = true := by simpa using ce
                        go_upto_region 32 with fail
                        clear BM RI RO BO BR HB0 LO0 R5 B2 GA BA
                        obtain ⟨⟨vi2, vo2, hb2, hr2, hs2⟩, hbo2, hbr2, hbel2, hlow2, hfrm2⟩ := HJ.out
                        have R2 := Aside0.mk hr2
                        have S2 := Aside0.mk hs2
                        have BM2 := Aside0.mk hb2
                        have BR2 := Aside0.mk hbr2
                        have HB2 := Aside0.mk hbel2
                        have LO2 := Aside0.mk hlow2
                        have FR2 := Aside0.mk hfrm2
                        clear hb2 hr2 hs2 hbo2 hbr2 hbel2 hlow2 hfrm2
                        go_wp2_with (first | ((with_reducible refine gate_dst (N := 123) rfl ?_); refine XBox.loadL_ 123 rfl rfl 26 rfl gm rfl (Ms.row _ vi2 vo2) BM2.out hu26 rfl hi26 ?_) | ((with_reducible refine gate_store (p := 4) rfl ?_); refine XBox.storeL_ rfl rfl 26 rfl (gm + 1 + 1) rfl #[.int .i64 0, .int .u32 0, .string (⟨#[]⟩ : ByteArray), .string (⟨#[]⟩ : ByteArray), .slice none 0 0, .int .i64 0, .bool false, .bool false, .int .i64 0, .slice none 0 0] (Ms.row _ vi2 vo2) rfl BR2.out hi26 (Eq.refl 10) (by obtain ⟨_, _, rfl⟩ := Kd.R_slice R2.out; obtain ⟨_, _, rfl⟩ := Kd.R_slice S2.out; simp [Ms.row, Value.oneCell']) ?_; intro wz hw1 hw2 hw3; have BZ := Aside0.mk hw1; have HZ := Aside0.mk (HB2.out.trans (hw2 B (by have := LO2.out; omega))); have RZ := Aside0.mk (Kd.R_step R2.out (fun q hq hlt => hw3 q (by have := hq.2; omega))); have SZ := Aside0.mk (Kd.R_step S2.out (fun q hq hlt => hw3 q (by have := hq.2; omega))); have FZ := Aside0.mk (fun q (hq : q < w.heap.size) (hs : ¬ S q) => (hw3 q (by have := LO2.out; omega)).trans (FR2.out q hq hs)); clear hw1 hw2 hw3))
                        refine bodyPost_ret (results_ct rfl _ _ (gm + 1 + 1) 26 (Ms.row _ vi2 vo2) (0, 0) _ rfl BZ.out hu26 rfl (by kernel_rfl)) rfl ?_
                        exact ⟨vi2, vo2, rfl, Kd.R_mono RZ.out (fun _ hq => hq.1), Kd.R_mono SZ.out (fun _ hq => hq.1), HZ.out, FZ.out⟩
                    · rw [if_neg g1] at h
                      have hmm := Option.some.inj h
                      injection hmm with hm1 hr1
                      subst hm1 hr1
                      clear h
                      have g1z : (8 : Int) ≤ (m.ias.length : Int) := by omega
                      go_upto_region 29 with fail
                      clear hm4 BM RI RO BO BR HB0 LO0
                      obtain ⟨⟨vi2, vo2, hb2, hr2, hs2⟩, hbo2, hbr2, hbel2, hlow2, hfrm2⟩ := HI.out
                      have R2 := Aside0.mk hr2
                      have S2 := Aside0.mk hs2
                      have BM2 := Aside0.mk hb2
                      have BR2 := Aside0.mk hbr2
                      have HB2 := Aside0.mk hbel2
                      have LO2 := Aside0.mk hlow2
                      have FR2 := Aside0.mk hfrm2
                      clear hb2 hr2 hs2 hbo2 hbr2 hbel2 hlow2 hfrm2
                      go_wp2_with (first | ((with_reducible refine gate_dst (N := 115) rfl ?_); refine XBox.loadL_ 115 rfl rfl 26 rfl gm rfl (Ms.row _ vi2 vo2) BM2.out hu26 rfl hi26 ?_) | ((with_reducible refine gate_store (p := 4) rfl ?_); refine XBox.storeL_ rfl rfl 26 rfl (gm + 1 + 1) rfl #[.int .i64 0, .int .u32 0, .string (⟨#[]⟩ : ByteArray), .string (⟨#[]⟩ : ByteArray), .slice none 0 0, .int .i64 0, .bool false, .bool false, .int .i64 0, .slice none 0 0] (Ms.row _ vi2 vo2) rfl BR2.out hi26 (Eq.refl 10) (by obtain ⟨_, _, rfl⟩ := Kd.R_slice R2.out; obtain ⟨_, _, rfl⟩ := Kd.R_slice S2.out; simp [Ms.row, Value.oneCell']) ?_; intro wz hw1 hw2 hw3; have BZ := Aside0.mk hw1; have HZ := Aside0.mk (HB2.out.trans (hw2 B (by have := LO2.out; omega))); have RZ := Aside0.mk (Kd.R_step R2.out (fun q hq hlt => hw3 q (by have := hq.2; omega))); have SZ := Aside0.mk (Kd.R_step S2.out (fun q hq hlt => hw3 q (by have := hq.2; omega))); have FZ := Aside0.mk (fun q (hq : q < w.heap.size) (hs : ¬ S q) => (hw3 q (by have := LO2.out; omega)).trans (FR2.out q hq hs)); clear hw1 hw2 hw3))
                      refine bodyPost_ret (results_ct rfl _ _ (gm + 1 + 1) 26 (Ms.row _ vi2 vo2) (0, 0) _ rfl BZ.out hu26 rfl (by kernel_rfl)) rfl ?_
                      exact ⟨vi2, vo2, rfl, Kd.R_mono RZ.out (fun _ hq => hq.1), Kd.R_mono SZ.out (fun _ hq => hq.1), HZ.out, FZ.out⟩
                  · rw [if_neg (fun e => e.elim c1 c2), if_neg c13, if_neg (fun e => e.elim c14 c20), if_neg c19, if_neg (fun e => by rcases e with e | e | e; exact c3 e; exact c4 e; exact c25 e)] at h
                    obtain ⟨⟨vi0, vo0, hbm0, hr0, hs0⟩, hbo0, hbr0, hbel0, hlow0, hfrm0⟩ := HI.out
                    obtain ⟨Ao0, co0, rfl⟩ := Kd.R_slice hs0
                    have BM := Aside0.mk hbm0
                    have RI := Aside0.mk hr0
                    have RO := Aside0.mk hs0
                    have BO := Aside0.mk hbo0
                    have BR := Aside0.mk hbr0
                    have HB0 := Aside0.mk hbel0
                    have LO0 := Aside0.mk hlow0
                    have FR0 := Aside0.mk hfrm0
                    clear hfrm0
                    have hm9 : World.cell? W0 ⟨gm, 9, none⟩ = some (.slice Ao0 m.opts.length co0) := (blk_cell hbm0 9).trans rfl
                    have hx : some (gm + 1) ≠ Value.ownBlock (.slice Ao0 m.opts.length co0) := fun e => by have := (hs0.1 (gm + 1) e.symm).2; omega
                    have HX := Aside0.mk hx
                    clear hbm0 hr0 hs0 hbo0 hbr0 hbel0 hlow0 hx
                    by_cases g1 : m.opts.length < 1000000
                    · rw [if_pos g1] at h
                      have hmm := Option.some.inj h
                      injection hmm with hm1 hr1
                      subst hm1 hr1
                      clear h
                      have GL := Aside0.mk g1
                      clear g1
                      go_upto_region 34 with (first | ((with_reducible refine gate_dst (N := 14) rfl ?_); refine XBox.loadL_ 14 rfl rfl 42 rfl (gm + 1) rfl #[.int .u16 code, .string data] BO.out hu42 rfl (by kernel_rfl) ?_) | ((with_reducible refine gate_builtin (b := .append) (xs := #[.tmp 13, .tmp 15]) rfl ?_); at_builtin; refine Kd.R_append k42 (w0 := w) B rfl (.tmp 13) (.tmp 15) 24 42 (.agg #[(.int .u16 0), (.string ⟨#[]⟩)]) 24 rfl Try.underlying24 info42 rfl (by decide) (by omega) (.slice Ao0 m.opts.length co0) m.opts (⟨code, data⟩ : S42) [.int .u16 code, .string data] (fun q => S q ∧ (q < gm ∨ gm + 1 + 1 < q)) (fun _ => False) rfl rfl ?aP (fun _ hk => hk.elim) ?aF ?aO ?aB ?aS ?aL ?_; (case aP => exact k42_mkM _ _ _ (⟨code, data⟩ : S42)); (case aB => exact HB0.out); (case aF => exact (fun q hq => ⟨HS.out q (by have := HW0.out; omega), .inr (by have := HW0.out; omega)⟩)); (case aO => exact RO.out); (case aS => have := HW0.out; have := LO0.out; omega); (case aL => have := GL.out; omega); intro v1 W3 hr hb hg hat; obtain ⟨An, cn, hv⟩ := Kd.R_slice hr; obtain ⟨ln, hln⟩ : ∃ ln, ln = (m.opts ++ [(⟨code, data⟩ : S42)]).length := ⟨_, rfl⟩; rw [← hln] at hv; subst hv; clear hln; have hk3 := blk_grown BM.out hg (Kd.R_ne RO.out BM.out (by decide)); have hm9b : World.cell? W3 ⟨gm, 9, none⟩ = some (.slice Ao0 m.opts.length co0) := (blk_cell hk3 9).trans rfl; have hfz9b := blk_frozen hk3 9; have HK := Aside0.mk (O1.putOpts BM.out RI.out RO.out BO.out BR.out LO0.out FR0.out HX.out hr hb hg); clear hk3 hr hb hg hat hm9))
                      generalize World.setCell W3 ⟨gm, 9, none⟩ (.slice An ln cn) = W4 at HK ⊢
                      clear BM RI RO BO BR HB0 LO0 HX
                      obtain ⟨⟨vi2, vo2, hb2, hr2, hs2⟩, hbo2, hbr2, hbel2, hlow2, hfrm2⟩ := HK.out
                      have R2 := Aside0.mk hr2
                      have S2 := Aside0.mk hs2
                      have BM2 := Aside0.mk hb2
                      have BR2 := Aside0.mk hbr2
                      have HB2 := Aside0.mk hbel2
                      have LO2 := Aside0.mk hlow2
                      have FR2 := Aside0.mk hfrm2
                      clear hb2 hr2 hs2 hbo2 hbr2 hbel2 hlow2 hfrm2
                      go_wp2_with (first | ((with_reducible refine gate_dst (N := 131) rfl ?_); refine XBox.loadL_ 131 rfl rfl 26 rfl gm rfl (Ms.row _ vi2 vo2) BM2.out hu26 rfl hi26 ?_) | ((with_reducible refine gate_store (p := 4) rfl ?_); refine XBox.storeL_ rfl rfl 26 rfl (gm + 1 + 1) rfl #[.int .i64 0, .int .u32 0, .string (⟨#[]⟩ : ByteArray), .string (⟨#[]⟩ : ByteArray), .slice none 0 0, .int .i64 0, .bool false, .bool false, .int .i64 0, .slice none 0 0] (Ms.row _ vi2 vo2) rfl BR2.out hi26 (Eq.refl 10) (by obtain ⟨_, _, rfl⟩ := Kd.R_slice R2.out; obtain ⟨_, _, rfl⟩ := Kd.R_slice S2.out; simp [Ms.row, Value.oneCell']) ?_; intro wz hw1 hw2 hw3; have BZ := Aside0.mk hw1; have HZ := Aside0.mk (HB2.out.trans (hw2 B (by have := LO2.out; omega))); have RZ := Aside0.mk (Kd.R_step R2.out (fun q hq hlt => hw3 q (by have := hq.2; omega))); have SZ := Aside0.mk (Kd.R_step S2.out (fun q hq hlt => hw3 q (by have := hq.2; omega))); have FZ := Aside0.mk (fun q (hq : q < w.heap.size) (hs : ¬ S q) => (hw3 q (by have := LO2.out; omega)).trans (FR2.out q hq hs)); clear hw1 hw2 hw3))
                      refine bodyPost_ret (results_ct rfl _ _ (gm + 1 + 1) 26 (Ms.row _ vi2 vo2) (0, 0) _ rfl BZ.out hu26 rfl (by kernel_rfl)) rfl ?_
                      exact ⟨vi2, vo2, rfl, Kd.R_mono RZ.out (fun _ hq => hq.1), Kd.R_mono SZ.out (fun _ hq => hq.1), HZ.out, FZ.out⟩
                    · rw [if_neg g1] at h
                      cases h

end Go.Proofs.Ythadapbekmmgpaa.X
