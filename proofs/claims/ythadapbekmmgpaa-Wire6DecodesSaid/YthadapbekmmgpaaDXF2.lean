/- no condition. -/
import Derived.Test.YthadapbekmmgpaaDX0
import Derived.Test.YthadapbekmmgpaaDX9
import Derived.Test.YthadapbekmmgpaaDXBox
import Derived.Test.YthadapbekmmgpaaDXCv
import Derived.Test.YthadapbekmmgpaaDXE3
import Derived.Test.YthadapbekmmgpaaDXF1
import Derived.Test.YthadapbekmmgpaaDXIn
import Derived.Test.YthadapbekmmgpaaDXOrow
import Derived.Test.YthadapbekmmgpaaDXReg
import Derived.Test.YthadapbekmmgpaaDXRegF
import Derived.Test.YthadapbekmmgpaaDXRegP
import Derived.Test.YthadapbekmmgpaaDXRegQ
import Derived.Outline
import Derived.Lib.Hide
import Derived.Laws.IdiomCopy
import Derived.Lib.SliceRun
import Derived.WalkSpells
namespace Go.Proofs.Ythadapbekmmgpaa.X
open Go.RowKit Go.Proofs.YthadapbekmmgpaaW.PrintWords Go.Proofs.YthadapbekmmgpaaW.PrintLast Go.Proofs.YthadapbekmmgpaaW.PrintMore
set_option linter.unusedVariables false
set_option linter.unusedSimpArgs false
theorem R_box {α : Type} {d : Kd α} {e base g t : Nat} {w w1 : World} {ok : Nat → Prop} {v : Value} {xs : List α} {cells : Array Value} (h : d.R e w base ok v xs) (hb : w.heap[g]? = some (.cells cells t (0, 0))) (ht : ∀ q, q ∈ e :: d.E → q ≠ t) (hk : ∀ k, k ≠ g → w1.heap[k]? = w.heap[k]?) : d.R e w1 base ok v xs :=
  Kd.R_mono (Kd.R_step (Kd.R_types h hb ht) (fun k hk2 _ => hk k hk2.2)) (fun _ hq => hq.1)
def w6oneRegV (sz gm : Nat) (Bq : Nat) (m m2 : Ms) (x : S42) (vi vo : Value) (ad : Addr) (n cl kk : Nat) (rr : Int) : Nat → Nat → Value → World → Prop
  | _, 0, v, _ => v = .agg (m.row vi vo)
  | _, 1, v, _ => v = .slice (some ad) n cl
  | _, 2, v, _ => v = .int .i64 kk
  | _, 3, v, _ => v = .pointer (some (ad.add (kk * 2)))
  | _, 4, v, _ => v = .agg #[.int .u16 x.f0, .string x.f1]
  | p, 5, v, w => p ≠ 0 ∧ ∃ vi2 vo2, v = .tuple #[.agg (m2.row vi2 vo2), .int .i64 rr] ∧ Kd.R k51 51 w Bq (fun q => Bq ≤ q) vi2 m2.ias ∧ Kd.R k42 42 w Bq (fun q => Bq ≤ q) vo2 m2.opts
  | p, 6, v, w => p ≠ 0 ∧ ∃ vi2 vo2, v = .tuple #[.agg (m2.row vi2 vo2), .int .i64 rr] ∧ Kd.R k51 51 w Bq (fun q => Bq ≤ q) vi2 m2.ias ∧ Kd.R k42 42 w Bq (fun q => Bq ≤ q) vo2 m2.opts
  | p, 7, v, w => p ≠ 0 ∧ ∃ vi2 vo2, v = .agg (m2.row vi2 vo2) ∧ Kd.R k51 51 w Bq (fun q => Bq ≤ q) vi2 m2.ias ∧ Kd.R k42 42 w Bq (fun q => Bq ≤ q) vo2 m2.opts
  | _, 8, v, _ => v = .int .i64 rr
  | p, 9, v, w => ∃ g, v = .pointer (some ⟨g, 0, none⟩) ∧ sz ≤ g ∧ g < w.heap.size ∧ ((p ≠ 2 ∧ w.heap[g]? = some (.cells #[.int .i64 0, .int .u32 0, .string (⟨#[]⟩ : ByteArray), .string (⟨#[]⟩ : ByteArray), .slice none 0 0, .int .i64 0, .bool false, .bool false, .int .i64 0, .slice none 0 0] 26 (0, 0))) ∨ (p = 2 ∧ ∃ vi2 vo2, w.heap[g]? = some (.cells (m2.row vi2 vo2) 26 (0, 0)) ∧ Kd.R k51 51 w Bq (fun q => Bq ≤ q) vi2 m2.ias ∧ Kd.R k42 42 w Bq (fun q => Bq ≤ q) vo2 m2.opts))
  | _, _, _, _ => True
/-- What the region works on. -/
structure OneB (w : World) (gm : Nat) (Bq : Nat) (m : Ms) (vi vo : Value) (Sl : Value) (b0 : Nat) (l : List S42) (p : Nat) (W : World) : Prop where
  row : W.heap[gm]? = some (.cells (m.row vi vo) 26 (0, 0))
  bel : Below Bq w W
  sz : w.heap.size ≤ W.heap.size
  lst : Kd.R k42 42 W b0 (fun q => q < Bq ∧ q ≠ gm) Sl l
  own : p = 0 → Kd.R k51 51 W Bq (fun q => Bq ≤ q ∧ q < w.heap.size) vi m.ias ∧ Kd.R k42 42 W Bq (fun q => Bq ≤ q ∧ q < w.heap.size) vo m.opts
  par : p < 3
theorem OneB.below {w W W' : World} {gm Bq b0 p : Nat} {m : Ms} {vi vo Sl : Value} {l : List S42} (h : OneB w gm Bq m vi vo Sl b0 l p W) (hBq : Bq ≤ w.heap.size) (hb : Below W.heap.size W W') : OneB w gm Bq m vi vo Sl b0 l p W' :=
  ⟨blk_below h.row hb, h.bel.trans (hb.mono (Nat.le_trans hBq h.sz)), Nat.le_trans h.sz hb.size, Kd.R_below h.lst hb, fun hp => ⟨Kd.R_below (h.own hp).1 hb, Kd.R_below (h.own hp).2 hb⟩, h.par⟩
set_option maxHeartbeats 4000000 in
set_option maxRecDepth 100000 in
theorem w6oneReg (ops : Array Oper) (hops : ops = opsOf Try.f18 19) (id : Nat) (Q : Exit → Act → World → Prop) (act : Act) (w : World) (hsz0 : act.tmps.size = 99) (k : Nat) (gm Bq b0 : Nat) (m m2 : Ms) (x : S42) (vi vo : Value) (ad : Addr) (cl kk : Nat) (l : List S42) (rr : Int)
    (h8 : act.eval (.tmp 8) = .pointer (some ⟨gm, 0, none⟩)) (h4 : act.eval (.tmp 4) = .slice (some ad) l.length cl) (h9 : act.eval (.tmp 9) = .int .i64 (kk : Int)) (hx : x = rd_T42 l (kk : Int)) (hkk : kk < l.length) (hll : l.length < 1000000) (hxs : x.f1.size ≤ 9223372036854775807) (hgm : gm < Bq) (hBq : Bq ≤ w.heap.size)
    (hrow : w.heap[gm]? = some (.cells (m.row vi vo) 26 (0, 0))) (hlst : Kd.R k42 42 w b0 (fun q => q < Bq ∧ q ≠ gm) (.slice (some ad) l.length cl) l) (hri : Kd.R k51 51 w Bq (fun q => Bq ≤ q) vi m.ias) (hro : Kd.R k42 42 w Bq (fun q => Bq ≤ q) vo m.opts)
    (hone : tenancyref16_one.f k m x.f0 x.f1 = some (m2, rr))
    (hK : ∀ (u : Tmp → Value) (W : World) (g : Nat) (vi2 vo2 : Value), u 11 = .pointer (some ⟨g, 0, none⟩) → w.heap.size ≤ g → W.heap[g]? = some (.cells (m2.row vi2 vo2) 26 (0, 0)) → (Kd.R k51 51 W Bq (fun q => Bq ≤ q) vi2 m2.ias ∧ Kd.R k42 42 W Bq (fun q => Bq ≤ q) vo2 m2.opts) → OneB w gm Bq m vi vo (.slice (some ad) l.length cl) b0 l 2 W → Q .normal ((XReg.fills u [85, 86, 87, 88, 89, 90, 84, 91, 92, 11] act).put (some 12) (.int .i64 rr)) W) :
    (Code.region id ops true).wp Try.prog Q act w := by
  subst hops
  refine (wpIn_wide (n := 9)).1 (XReg.region_goQ (by kernel_rfl) 11 5 10 (by decide) (by decide) (by rw [hsz0]; kernel_rfl) (w6oneRegV w.heap.size gm Bq m m2 x vi vo ad l.length cl kk rr)
    (fun p w' => OneB w gm Bq m vi vo (.slice (some ad) l.length cl) b0 l p w') ?_ (fun p w1 w2 h1 h2 => h1.below hBq h2) ?_ ?_ ?_ ?_ ?_)
  · intro p i v w1 w2 hv hb
    match i, hv with
    | 0, hv | 1, hv | 2, hv | 3, hv | 4, hv | 8, hv => exact hv
    | 5, ⟨hp, vi2, vo2, e, r1, r2⟩ | 6, ⟨hp, vi2, vo2, e, r1, r2⟩ | 7, ⟨hp, vi2, vo2, e, r1, r2⟩ => exact ⟨hp, vi2, vo2, e, Kd.R_below r1 hb, Kd.R_below r2 hb⟩
    | 9, ⟨g, e, q1, q2, q3⟩ =>
      refine ⟨g, e, q1, Nat.lt_of_lt_of_le q2 hb.size, ?_⟩
      rcases q3 with ⟨hp, q3⟩ | ⟨hp, vi2, vo2, q3, r1, r2⟩
      · exact .inl ⟨hp, blk_below q3 hb⟩
      · exact .inr ⟨hp, vi2, vo2, blk_below q3 hb, Kd.R_below r1 hb, Kd.R_below r2 hb⟩
    | _ + 10, _ => trivial
  · have hd : Below w.heap.size w { w with drawn := w.drawn + 1 } := below_drew1 (Below.refl _ w)
    exact (OneB.mk hrow (Below.refl _ w) (Nat.le_refl _) hlst (fun _ => ⟨Kd.R_mono (Kd.R_bound hri) (fun q hq => ⟨hq.1, hq.2.2.1⟩), Kd.R_mono (Kd.R_bound hro) (fun q hq => ⟨hq.1, hq.2.2.1⟩)⟩) (by decide) : OneB w gm Bq m vi vo (.slice (some ad) l.length cl) b0 l 0 w).below hBq hd
  · intro p i o a' w' hi hiq hiq2 hnw ho hB hdf hr hd
    have qm := hB.row
    have hcases : i = 0 ∨ i = 1 ∨ i = 2 ∨ i = 3 ∨ i = 4 ∨ i = 6 ∨ i = 7 ∨ i = 8 ∨ i = 9 := by omega
    rcases hcases with rfl | rfl | rfl | rfl | rfl | rfl | rfl | rfl | rfl
    · obtain ⟨hop, hdst⟩ := XReg.op_is (x := .load 26 (.tmp 8)) (d := some 85) ho (by kernel_rfl)
      have e0 := (hr 8 (by kernel_rfl)).trans h8
      have hu26 := Try.underlying26
      have hi26 : (Try.prog.info? 26).map (·.size) = some 10 := by kernel_rfl
      refine XReg.val_ (v := .agg (m.row vi vo)) (w1 := w') (by rw [hop]; intro c h; cases h) (by simp [Oper.about, hop]) ?_ ⟨_, rfl, Below.refl _ _, rfl⟩
      unfold execOp
      rw [hop]
      clear hr hd hB
      simp [e0, Instr.loadAt, Instr.sureAddr, run_loadVar_row w' gm 26 26 (m.row vi vo) (0, 0) _ qm hu26 rfl hi26, Result.andThen]
    · obtain ⟨hop, hdst⟩ := XReg.op_is (x := .move (.tmp 4)) (d := some 86) ho (by kernel_rfl)
      have e0 := (hr 4 (by kernel_rfl)).trans h4
      refine XReg.val_ (v := .slice (some ad) l.length cl) (w1 := w') (by rw [hop]; intro c h; cases h) (by simp [Oper.about, hop]) ?_ ⟨_, rfl, Below.refl _ _, rfl⟩
      unfold execOp
      rw [hop]
      clear hr hd hB
      generalize a'.eval = ρ at e0 ⊢
      go_simp
    · obtain ⟨hop, hdst⟩ := XReg.op_is (x := .move (.tmp 9)) (d := some 87) ho (by kernel_rfl)
      have e0 := (hr 9 (by kernel_rfl)).trans h9
      refine XReg.val_ (v := .int .i64 (kk : Int)) (w1 := w') (by rw [hop]; intro c h; cases h) (by simp [Oper.about, hop]) ?_ ⟨_, rfl, Below.refl _ _, rfl⟩
      unfold execOp
      rw [hop]
      clear hr hd hB
      generalize a'.eval = ρ at e0 ⊢
      go_simp
    · obtain ⟨hop, hdst⟩ := XReg.op_is (x := .indexAddr 24 (.tmp 86) (.tmp 87)) (d := some 88) ho (by kernel_rfl)
      have e0 : a'.eval (.tmp 86) = .slice (some ad) l.length cl := hd 1 86 (by kernel_rfl) (by omega)
      have e1 : a'.eval (.tmp 87) = .int .i64 (kk : Int) := hd 2 87 (by kernel_rfl) (by omega)
      have hu0 := Try.underlying24
      have hu1 := Try.underlying42
      have hi42 : (Try.prog.info? 42).map (·.size) = some 2 := by kernel_rfl
      have p0 : 0 ≤ (kk : Int) := by omega
      have p1 : (kk : Int) < (l.length : Int) := by omega
      refine XReg.val_ (v := .pointer (some (ad.add (kk * 2)))) (w1 := w') (by rw [hop]; intro c h; cases h) (by simp [Oper.about, hop]) ?_ ⟨_, rfl, Below.refl _ _, rfl⟩
      unfold execOp
      rw [hop]
      clear hr hd hB
      generalize a'.eval = ρ at e0 e1 ⊢
      go_simp
    · obtain ⟨hop, hdst⟩ := XReg.op_is (x := .load 42 (.tmp 88)) (d := some 89) ho (by kernel_rfl)
      have e0 : a'.eval (.tmp 88) = .pointer (some (ad.add (kk * 2))) := hd 3 88 (by kernel_rfl) (by omega)
      have hu0 := Try.underlying42
      have hi42 : (Try.prog.info? 42).map (·.size) = some 2 := by kernel_rfl
      obtain ⟨_, _, hC⟩ := Kd.R_reads' hB.lst
      obtain ⟨ad_, hA, hx0, hx1⟩ := at_T42 hC (kk : Int) (by omega) (by omega)
      obtain rfl : ad = ad_ := by injection hA
      simp only [Int.toNat_natCast] at hx0 hx1
      rw [← hx] at hx0 hx1
      clear hC hA
      refine XReg.val_ (v := .agg #[.int .u16 x.f0, .string x.f1]) (w1 := w') (by rw [hop]; intro c h; cases h) (by simp [Oper.about, hop]) ?_ ⟨_, rfl, Below.refl _ _, rfl⟩
      unfold execOp
      rw [hop]
      clear hr hd hB
      generalize a'.eval = ρ at e0 ⊢
      go_simp
    · obtain ⟨hop, hdst⟩ := XReg.op_is (x := .move (.tmp 90)) (d := some 84) ho (by kernel_rfl)
      obtain ⟨hp, vi2, vo2, e0, r1, r2⟩ : p ≠ 0 ∧ ∃ vi2 vo2, a'.eval (.tmp 90) = .tuple #[.agg (m2.row vi2 vo2), .int .i64 rr] ∧ Kd.R k51 51 w' Bq (fun q => Bq ≤ q) vi2 m2.ias ∧ Kd.R k42 42 w' Bq (fun q => Bq ≤ q) vo2 m2.opts := hd 5 90 (by kernel_rfl) (by omega)
      refine XReg.val_ (v := .tuple #[.agg (m2.row vi2 vo2), .int .i64 rr]) (w1 := w') (by rw [hop]; intro c h; cases h) (by simp [Oper.about, hop]) ?_ ⟨_, rfl, Below.refl _ _, hp, vi2, vo2, rfl, r1, r2⟩
      unfold execOp
      rw [hop]
      clear hr hd hB
      generalize a'.eval = ρ at e0 ⊢
      go_simp
    · obtain ⟨hop, hdst⟩ := XReg.op_is (x := .extract (.tmp 84) 0) (d := some 91) ho (by kernel_rfl)
      obtain ⟨hp, vi2, vo2, e0, r1, r2⟩ : p ≠ 0 ∧ ∃ vi2 vo2, a'.eval (.tmp 84) = .tuple #[.agg (m2.row vi2 vo2), .int .i64 rr] ∧ Kd.R k51 51 w' Bq (fun q => Bq ≤ q) vi2 m2.ias ∧ Kd.R k42 42 w' Bq (fun q => Bq ≤ q) vo2 m2.opts := hd 6 84 (by kernel_rfl) (by omega)
      refine XReg.val_ (v := .agg (m2.row vi2 vo2)) (w1 := w') (by rw [hop]; intro c h; cases h) (by simp [Oper.about, hop]) ?_ ⟨_, rfl, Below.refl _ _, hp, vi2, vo2, rfl, r1, r2⟩
      unfold execOp
      rw [hop]
      clear hr hd hB
      generalize a'.eval = ρ at e0 ⊢
      go_simp
    · obtain ⟨hop, hdst⟩ := XReg.op_is (x := .extract (.tmp 84) 1) (d := some 92) ho (by kernel_rfl)
      obtain ⟨hp, vi2, vo2, e0, r1, r2⟩ : p ≠ 0 ∧ ∃ vi2 vo2, a'.eval (.tmp 84) = .tuple #[.agg (m2.row vi2 vo2), .int .i64 rr] ∧ Kd.R k51 51 w' Bq (fun q => Bq ≤ q) vi2 m2.ias ∧ Kd.R k42 42 w' Bq (fun q => Bq ≤ q) vo2 m2.opts := hd 6 84 (by kernel_rfl) (by omega)
      refine XReg.val_ (v := .int .i64 rr) (w1 := w') (by rw [hop]; intro c h; cases h) (by simp [Oper.about, hop]) ?_ ⟨_, rfl, Below.refl _ _, rfl⟩
      unfold execOp
      rw [hop]
      clear hr hd hB
      generalize a'.eval = ρ at e0 ⊢
      go_simp
    · obtain ⟨hop, hdst⟩ := XReg.op_is (x := .alloc 26) (d := some 11) ho (by kernel_rfl)
      have hp2 : p ≠ 2 := fun e => hnw e (XReg.depB_spec (i := 10) (j := 9) (d := 11) (by kernel_rfl)).1
      have hz : ∀ W, (zeroValue 26).run Try.prog W = .ok (.agg #[.int .i64 0, .int .u32 0, .string (⟨#[]⟩ : ByteArray), .string (⟨#[]⟩ : ByteArray), .slice none 0 0, .int .i64 0, .bool false, .bool false, .int .i64 0, .slice none 0 0]) W := fun W => by kernel_rfl
      refine XReg.val_ (v := .pointer (some ⟨w'.heap.size, 0, none⟩)) (w1 := w'.alloc (.cells #[.int .i64 0, .int .u32 0, .string (⟨#[]⟩ : ByteArray), .string (⟨#[]⟩ : ByteArray), .slice none 0 0, .int .i64 0, .bool false, .bool false, .int .i64 0, .slice none 0 0] 26)) (by rw [hop]; intro c h; cases h) (by simp [Oper.about, hop]) ?_ ⟨_, rfl, below_alloc (Below.refl _ _) _, w'.heap.size, rfl, hB.sz, by rw [World.size_alloc]; omega, .inl ⟨hp2, blk_new w' _⟩⟩
      unfold execOp
      rw [hop]
      clear hr hd hB
      go_simp
  · intro o a' w' ho hB hdf hr hd
    obtain ⟨hop, hdst⟩ := XReg.op_is (x := .call { callee := .value (.func 34), args := #[.tmp 85, .tmp 89], argTypes := #[26, 42] }) (d := some 90) ho (by kernel_rfl)
    have e0 : a'.eval (.tmp 85) = .agg (m.row vi vo) := hd 0 85 (by kernel_rfl) (by omega)
    have e1 : a'.eval (.tmp 89) = .agg #[.int .u16 x.f0, .string x.f1] := hd 4 89 (by kernel_rfl) (by omega)
    obtain ⟨r1, r2⟩ := hB.own rfl
    refine XReg.call_ (ro := none) Try.func34 (by kernel_rfl) rfl #[.agg (m.row vi vo), .agg #[.int .u16 x.f0, .string x.f1]] hop (by simp [e0, e1]) ?_
    refine (tenancyref16_one.calls k Bq m m2 x.f0 x.f1 rr vi vo w' (Nat.le_trans hBq hB.sz) (fun q => Bq ≤ q ∧ (q < w.heap.size ∨ w'.heap.size ≤ q)) (fun q hq => ⟨by have := hB.sz; omega, .inr hq⟩) (Kd.R_mono r1 (fun q hq => ⟨hq.1, .inl hq.2⟩)) (Kd.R_mono r2 (fun q hq => ⟨hq.1, .inl hq.2⟩)) hxs hone).mono ?_
    rintro e w2 ⟨vi2, vo2, rfl, s1, s2, hb2, hf2⟩
    refine ⟨_, rfl, _, rfl, ?_, ⟨by decide, vi2, vo2, rfl, Kd.R_mono s1 (fun q hq => hq.1), Kd.R_mono s2 (fun q hq => hq.1)⟩, ?_⟩
    · exact ⟨(hf2 gm (blk_lt hB.row) (fun h => by have := h.1; omega)).trans hB.row, hB.bel.trans hb2, Nat.le_trans hB.sz hb2.size, Kd.R_step hB.lst (fun q hq hlt => hf2 q hlt (fun h => by have := h.1; have := hq.1; omega)), fun h => (by cases h), by decide⟩
    · intro j v' hj hv
      match j, hj, hv with
      | 0, _, hv | 1, _, hv | 2, _, hv | 3, _, hv | 4, _, hv | 8, _, hv => exact hv
      | 5, hj, _ => exact absurd rfl hj
      | 6, _, ⟨h, _⟩ | 7, _, ⟨h, _⟩ => exact absurd rfl h
      | 9, _, ⟨g, e, q1, q2, q3⟩ =>
        refine ⟨g, e, q1, Nat.lt_of_lt_of_le q2 hb2.size, ?_⟩
        rcases q3 with ⟨_, q3⟩ | ⟨h, _⟩
        · exact .inl ⟨by decide, (hf2 g q2 (fun h => by rcases h.2 with h | h <;> omega)).trans q3⟩
        · cases h
      | _ + 10, _, _ => trivial
  · intro o a' w' ho hB hdf hr hd
    obtain ⟨hop, hdst⟩ := XReg.op_is (x := .store 26 (.tmp 11) (.tmp 91)) (d := none) ho (by kernel_rfl)
    obtain ⟨g, e0, q1, q2, q3⟩ : w6oneRegV w.heap.size gm Bq m m2 x vi vo ad l.length cl kk rr 1 9 (a'.eval (.tmp 11)) w' := hd 9 11 (by kernel_rfl) (by omega)
    obtain ⟨_, vi2, vo2, e1, r1, r2⟩ : w6oneRegV w.heap.size gm Bq m m2 x vi vo ad l.length cl kk rr 1 7 (a'.eval (.tmp 91)) w' := hd 7 91 (by kernel_rfl) (by omega)
    have q3 : w'.heap[g]? = some (.cells #[.int .i64 0, .int .u32 0, .string (⟨#[]⟩ : ByteArray), .string (⟨#[]⟩ : ByteArray), .slice none 0 0, .int .i64 0, .bool false, .bool false, .int .i64 0, .slice none 0 0] 26 (0, 0)) := by
      rcases q3 with ⟨_, q3⟩ | ⟨h, _⟩
      · exact q3
      · cases h
    obtain ⟨Ai2, ci2, hvi⟩ := Kd.R_slice r1
    obtain ⟨Ao2, co2, hvo⟩ := Kd.R_slice r2
    have hi26 : (Try.prog.info? 26).map (·.size) = some 10 := by kernel_rfl
    have hone1 : (m2.row vi2 vo2).all (·.oneCell') = true := by rw [hvi, hvo]; simp [Ms.row, Value.oneCell']
    have hw1 := setRow_heap w' g #[.int .i64 0, .int .u32 0, .string (⟨#[]⟩ : ByteArray), .string (⟨#[]⟩ : ByteArray), .slice none 0 0, .int .i64 0, .bool false, .bool false, .int .i64 0, .slice none 0 0] (m2.row vi2 vo2) 26 (0, 0) q3
    have hw3 : ∀ q, q ≠ g → (w'.setRow g (m2.row vi2 vo2)).heap[q]? = w'.heap[q]? := fun q hq => by simp only [World.setRow]; rw [Array.getElem?_modify, if_neg (Ne.symm hq)]
    have hbg : Below Bq w' (w'.setRow g (m2.row vi2 vo2)) := XBox.setRow_below q3 (by omega)
    have hszr : (w'.setRow g (m2.row vi2 vo2)).heap.size = w'.heap.size := by simp [World.setRow]
    have s1 := R_box r1 q3 (by decide) hw3
    have s2 := R_box r2 q3 (by decide) hw3
    refine XReg.skip_ (w1 := w'.setRow g (m2.row vi2 vo2)) (by rw [hop]; intro c h; cases h) (by simp [Oper.about, hop]) ?_ ⟨by rw [hdst]; rfl, ?_, ?_⟩
    · unfold execOp
      simp [hop, e0, e1, Instr.storeAt, Instr.sureAddr, run_storeVar_row w' g 26 26 #[.int .i64 0, .int .u32 0, .string (⟨#[]⟩ : ByteArray), .string (⟨#[]⟩ : ByteArray), .slice none 0 0, .int .i64 0, .bool false, .bool false, .int .i64 0, .slice none 0 0] (m2.row vi2 vo2) q3 hi26 (Eq.refl 10) hone1, Result.andThen]
    · exact ⟨(hw3 gm (by omega)).trans hB.row, hB.bel.trans hbg, by rw [hszr]; exact hB.sz, Kd.R_step hB.lst (fun q hq hlt => hw3 q (by have := hq.1; omega)), fun h => (by cases h), by decide⟩
    · intro j oj d hoj hdj hv
      match j, hoj, hv with
      | 0, _, hv | 1, _, hv | 2, _, hv | 3, _, hv | 4, _, hv | 8, _, hv => exact hv
      | 5, _, ⟨_, vi3, vo3, e, t1, t2⟩ | 6, _, ⟨_, vi3, vo3, e, t1, t2⟩ | 7, _, ⟨_, vi3, vo3, e, t1, t2⟩ => exact ⟨by decide, vi3, vo3, e, R_box t1 q3 (by decide) hw3, R_box t2 q3 (by decide) hw3⟩
      | 9, hoj, _ =>
        obtain ⟨_, hd11⟩ := XReg.op_is (x := .alloc 26) (d := some 11) hoj (by kernel_rfl)
        obtain rfl : d = 11 := by rw [hd11] at hdj; injection hdj with h; exact h.symm
        exact ⟨g, e0, q1, by rw [hszr]; exact q2, .inr ⟨rfl, vi2, vo2, hw1, s1, s2⟩⟩
      | _ + 10, _, _ => trivial
  · intro o a' w' ho hB hdf hsz' hr hd
    have hfill := XReg.fill_eq [85, 86, 87, 88, 89, 90, 84, 91, 92, 11] hsz' hdf (XReg.rest_of (ops := opsOf Try.f18 19) (m := 11) (by kernel_rfl) hr)
    obtain ⟨hop, hdst⟩ := XReg.op_is (x := .assign (.tmp 92)) (d := some 12) ho (by kernel_rfl)
    have e0 : a'.eval (.tmp 92) = .int .i64 rr := hd 8 92 (by kernel_rfl) (by omega)
    obtain ⟨g, e1, q1, q2, q3⟩ : w6oneRegV w.heap.size gm Bq m m2 x vi vo ad l.length cl kk rr 2 9 (a'.eval (.tmp 11)) w' := hd 9 11 (by kernel_rfl) (by omega)
    rcases q3 with ⟨h, _⟩ | ⟨_, vi2, vo2, q3, r1, r2⟩
    · exact absurd rfl h
    refine XReg.val_ (v := .int .i64 rr) (w1 := w') (by rw [hop]; intro c h; cases h) (by simp [Oper.about, hop]) ?_ (by rw [hdst, hfill]; exact hK _ w' g vi2 vo2 e1 q1 q3 ⟨r1, r2⟩ hB)
    unfold execOp
    rw [hop]
    clear hr hd hB hfill hK
    generalize a'.eval = ρ at e0 ⊢
    go_simp

end Go.Proofs.Ythadapbekmmgpaa.X
