/- no condition. -/
import Derived.Test.YthadapbekmmgpaaDX0
import Derived.Test.YthadapbekmmgpaaDX9
import Derived.Test.YthadapbekmmgpaaDXCv
import Derived.Test.YthadapbekmmgpaaDXIn
import Derived.Test.YthadapbekmmgpaaDXOrow
import Derived.Test.YthadapbekmmgpaaDXReg
import Derived.Test.YthadapbekmmgpaaDXRegF
import Derived.Test.YthadapbekmmgpaaDXRegP
import Derived.Outline
import Derived.Lib.Hide
import Derived.Laws.IdiomCopy
import Derived.Lib.SliceRun
import Derived.WalkSpells
namespace Go.Proofs.Ythadapbekmmgpaa.X
open Go.RowKit Go.Proofs.YthadapbekmmgpaaW.PrintWords Go.Proofs.YthadapbekmmgpaaW.PrintLast Go.Proofs.YthadapbekmmgpaaW.PrintMore
set_option linter.unusedVariables false
set_option linter.unusedSimpArgs false
def w6byteRegV (gm gx : Nat) (data : ByteArray) : Nat → Value → World → Prop
  | 0, v, _ => v = .pointer (some ⟨gm, 0, none⟩)
  | 1, v, _ => v = .pointer (some ⟨gx, 1, none⟩)
  | 2, v, _ => v = .string data
  | 3, v, _ => v = .int .u8 (bt data 0)
  | 4, v, _ => v = .int .i64 (bt data 0)
  | 5, v, _ => v = .pointer (some ⟨gm, 0, none⟩)
  | 6, v, _ => v = .pointer (some ⟨gm, 8, none⟩)
  | _, _, _ => True
set_option maxHeartbeats 4000000 in
set_option maxRecDepth 100000 in
theorem w6byteReg (ops : Array Oper) (hops : ops = opsOf Try.f30 22) (id : Nat) (Q : Exit → Act → World → Prop) (act : Act) (w : World) (hsz0 : act.tmps.size = 134) (gm gx : Nat) (data : ByteArray) (code : Int) (row : Array Value) (old : Value)
    (h0 : act.eval (.tmp 0) = .pointer (some ⟨gm, 0, none⟩)) (h4 : act.eval (.tmp 4) = .pointer (some ⟨gx, 0, none⟩)) (bm : w.heap[gm]? = some (.cells row 26 (0, 0))) (hrow : row[8]? = some old) (bx : w.heap[gx]? = some (.cells #[.int .u16 code, .string data] 42 (0, 0))) (hz : Aside0 (0 < data.size))
    (hK : ∀ (u : Tmp → Value) (W : World), Below w.heap.size w W → Q .normal (XReg.fills u [84, 85, 86, 87, 88, 89, 90] act) (W.setCell ⟨gm, 8, none⟩ (.int .i64 (bt data 0)))) :
    (Code.region id ops false).wp Try.prog Q act w := by
  subst hops
  refine (wpIn_wide (n := 9)).1 (XReg.regionF 7 (by rw [hsz0]; kernel_rfl) (w6byteRegV gm gx data)
    (fun w' => Below w.heap.size w w') ?_ (fun w1 w2 h1 h2 => below_step h1 h2) (Below.refl _ w) ?_ ?_)
  · intro i v w1 w2 hv hb
    match i, hv with
    | 0, hv | 1, hv | 2, hv | 3, hv | 4, hv | 5, hv | 6, hv => exact hv
    | _ + 7, _ => trivial
  · intro i o a' w' hi ho hB hdf hr hd
    have cm := blk_below bm hB
    have cx := blk_below bx hB
    have hcases : i = 0 ∨ i = 1 ∨ i = 2 ∨ i = 3 ∨ i = 4 ∨ i = 5 ∨ i = 6 := by omega
    rcases hcases with rfl | rfl | rfl | rfl | rfl | rfl | rfl
    · obtain ⟨hop, hdst⟩ := XReg.op_is (x := .move (.tmp 0)) (d := some 84) ho (by kernel_rfl)
      have e0 := (hr 0 (by kernel_rfl)).trans h0
      refine XReg.val_ (v := .pointer (some ⟨gm, 0, none⟩)) (w1 := w') (by rw [hop]; intro c h; cases h) (by simp [Oper.about, hop]) ?_ ⟨_, rfl, Below.refl _ _, rfl⟩
      unfold execOp
      rw [hop]
      clear hr hd hB
      generalize a'.eval = ρ at e0 ⊢
      go_simp
    · obtain ⟨hop, hdst⟩ := XReg.op_is (x := .fieldAddr 42 (.tmp 4) 1) (d := some 85) ho (by kernel_rfl)
      have e0 := (hr 4 (by kernel_rfl)).trans h4
      have hu0 := Try.underlying42
      refine XReg.val_ (v := .pointer (some ⟨gx, 1, none⟩)) (w1 := w') (by rw [hop]; intro c h; cases h) (by simp [Oper.about, hop]) ?_ ⟨_, rfl, Below.refl _ _, rfl⟩
      unfold execOp
      rw [hop]
      clear hr hd hB
      generalize a'.eval = ρ at e0 ⊢
      go_simp
    · obtain ⟨hop, hdst⟩ := XReg.op_is (x := .load 9 (.tmp 85)) (d := some 86) ho (by kernel_rfl)
      have e0 : a'.eval (.tmp 85) = .pointer (some ⟨gx, 1, none⟩) := hd 1 85 (by kernel_rfl) (by omega)
      have hc : World.cell? w' ⟨gx, 1, none⟩ = some (.string data) := (blk_cell cx 1).trans rfl
      have hu0 := Try.underlying9
      refine XReg.val_ (v := .string data) (w1 := w') (by rw [hop]; intro c h; cases h) (by simp [Oper.about, hop]) ?_ ⟨_, rfl, Below.refl _ _, rfl⟩
      unfold execOp
      rw [hop]
      clear hr hd hB
      generalize a'.eval = ρ at e0 ⊢
      go_simp
    · obtain ⟨hop, hdst⟩ := XReg.op_is (x := .index 9 (.tmp 86) (.const (.int .i64 0))) (d := some 87) ho (by kernel_rfl)
      have e0 : a'.eval (.tmp 86) = .string data := hd 2 86 (by kernel_rfl) (by omega)
      have e9 : a'.eval (.const (.int .i64 0)) = .int .i64 0 := rfl
      have hbt : ∀ h : 0 < data.size, ((data[0]'h).toNat : Int) = bt data 0 := bt_at data 0
      have hz0 := hz.out
      have hu0 := Try.underlying9
      refine XReg.val_ (v := .int .u8 (bt data 0)) (w1 := w') (by rw [hop]; intro c h; cases h) (by simp [Oper.about, hop]) ?_ ⟨_, rfl, Below.refl _ _, rfl⟩
      unfold execOp
      rw [hop]
      clear hr hd hB
      generalize a'.eval = ρ at e0 e9 ⊢
      go_simp
    · obtain ⟨hop, hdst⟩ := XReg.op_is (x := .convert 5 3 (.tmp 87)) (d := some 88) ho (by kernel_rfl)
      have e0 : a'.eval (.tmp 87) = .int .u8 (bt data 0) := hd 3 87 (by kernel_rfl) (by omega)
      have hr0 := bt_range data 0
      have hu0 := Try.underlying5
      have hu1 := Try.underlying3
      refine XReg.val_ (v := .int .i64 (bt data 0)) (w1 := w') (by rw [hop]; intro c h; cases h) (by simp [Oper.about, hop]) ?_ ⟨_, rfl, Below.refl _ _, rfl⟩
      unfold execOp
      rw [hop]
      clear hr hd hB
      generalize bt data 0 = b at e0 hr0 ⊢
      generalize a'.eval = ρ at e0 ⊢
      go_simp
      first | done | exact Go.IntWalk.i64_in b (by omega) | exact Go.IntWalk.wrap64_in b (by omega)
    · obtain ⟨hop, hdst⟩ := XReg.op_is (x := .nilCheck (.tmp 84)) (d := some 89) ho (by kernel_rfl)
      have e0 : a'.eval (.tmp 84) = .pointer (some ⟨gm, 0, none⟩) := hd 0 84 (by kernel_rfl) (by omega)
      refine XReg.val_ (v := .pointer (some ⟨gm, 0, none⟩)) (w1 := w') (by rw [hop]; intro c h; cases h) (by simp [Oper.about, hop]) ?_ ⟨_, rfl, Below.refl _ _, rfl⟩
      unfold execOp
      rw [hop]
      clear hr hd hB
      generalize a'.eval = ρ at e0 ⊢
      go_simp
    · obtain ⟨hop, hdst⟩ := XReg.op_is (x := .fieldAddr 26 (.tmp 89) 8) (d := some 90) ho (by kernel_rfl)
      have e0 : a'.eval (.tmp 89) = .pointer (some ⟨gm, 0, none⟩) := hd 5 89 (by kernel_rfl) (by omega)
      have hu0 := Try.underlying26
      refine XReg.val_ (v := .pointer (some ⟨gm, 8, none⟩)) (w1 := w') (by rw [hop]; intro c h; cases h) (by simp [Oper.about, hop]) ?_ ⟨_, rfl, Below.refl _ _, rfl⟩
      unfold execOp
      rw [hop]
      clear hr hd hB
      generalize a'.eval = ρ at e0 ⊢
      go_simp
  · intro o a' w' ho hB hdf hsz' hr hd
    have cm := blk_below bm hB
    have cx := blk_below bx hB
    have hfill := XReg.fill_eq [84, 85, 86, 87, 88, 89, 90] hsz' hdf (XReg.rest_of (ops := opsOf Try.f30 22) (m := 7) (by kernel_rfl) hr)
    obtain ⟨hop, hdst⟩ := XReg.op_is (x := .store 3 (.tmp 90) (.tmp 88)) (d := none) ho (by kernel_rfl)
    have e0 : a'.eval (.tmp 90) = .pointer (some ⟨gm, 8, none⟩) := hd 6 90 (by kernel_rfl) (by omega)
    have e1 : a'.eval (.tmp 88) = .int .i64 (bt data 0) := hd 4 88 (by kernel_rfl) (by omega)
    have hkk := hK (fun d => a'.eval (.tmp d)) w' hB
    rw [← hfill] at hkk
    have hc : World.cell? w' ⟨gm, 8, none⟩ = some old := (blk_cell cm 8).trans hrow
    have hfz := blk_frozen cm 8
    have hu0 := Try.underlying3
    refine XReg.skip_ (w1 := World.setCell w' ⟨gm, 8, none⟩ (.int .i64 (bt data 0))) (by rw [hop]; intro c h; cases h) (by simp [Oper.about, hop]) ?_ (by rw [hdst]; exact hkk)
    unfold execOp
    rw [hop]
    clear hr hd hB hfill hkk hK bm bx cm cx hrow
    generalize bt data 0 = b at e1 ⊢
    generalize a'.eval = ρ at e0 e1 ⊢
    go_simp

/-- A message, its lists as lists. -/
structure Ms where
  ty : Int
  xid : Int
  cl : ByteArray
  sv : ByteArray
  ias : List S51
  code : Int
  rap : Bool
  acc : Bool
  again : Int
  opts : List S42
def Ms.row (m : Ms) (vi vo : Value) : Array Value := #[.int .i64 m.ty, .int .u32 m.xid, .string m.cl, .string m.sv, vi, .int .i64 m.code, .bool m.rap, .bool m.acc, .int .i64 m.again, vo]
theorem grown_then {w w1 w2 : World} {row : Option Nat} (hg : w.grownBy w1 row) (hb : Below w1.heap.size w1 w2) : w.grownBy w2 row :=
  ⟨hb.os.trans hg.os, hb.tape.trans hg.tape, hb.output.trans hg.output, Nat.le_trans hg.size hb.size, fun k hk hr => (hb.block k (Nat.lt_of_lt_of_le hk hg.size)).trans (hg.block k hk hr)⟩
theorem grown_of_bel {w w1 : World} (row : Option Nat) (hb : Below w.heap.size w w1) : w.grownBy w1 row := ⟨hb.os, hb.tape, hb.output, hb.size, fun k hk _ => hb.block k hk⟩
theorem grown_after {w w1 w2 : World} {row : Option Nat} (hb : Below w.heap.size w w1) (hg : w1.grownBy w2 row) : w.grownBy w2 row :=
  ⟨hg.os.trans hb.os, hg.tape.trans hb.tape, hg.output.trans hb.output, Nat.le_trans hb.size hg.size, fun k hk hr => (hg.block k (Nat.lt_of_lt_of_le hk hb.size) hr).trans (hb.block k hk)⟩
theorem appOpt {w : World} {base : Nat} {ok : Nat → Prop} {A : Option Addr} {c : Nat} {l : List S42} (y : S42) {g : Nat} (ty : TypeId) (HO : Kd.R k42 42 w base ok (.slice A l.length c) l) (hg : w.heap[g]? = some (.cells #[.int .u16 y.f0, .string y.f1] 42 (0, 0))) (hfresh : ∀ k, w.heap.size ≤ k → ok k) (hbase : base ≤ w.heap.size) (hlen : l.length < 1000000) :
    ∃ v1 w1, (Builtin.append_ #[24, 24] ty #[.slice A l.length c, .slice (some ⟨g, 0, none⟩) 1 1]).run Try.prog w = .ok v1 w1 ∧ Kd.R k42 42 w1 base ok v1 (l ++ [y]) ∧ w.grownBy w1 (Value.ownBlock (.slice A l.length c)) := by
  obtain ⟨h0, inner, hown, hr⟩ := HO
  obtain ⟨i0, hi, hzz⟩ := Option.map_eq_some_iff.1 info42
  simp only [Prod.mk.injEq] at hzz
  obtain ⟨hz0, hz1, hz2⟩ := hzz
  have hcell : ∀ (j : Nat) u, [Value.int .u16 y.f0, .string y.f1][j]? = some u → w.cell? (Addr.add ⟨g, 0, none⟩ j) = some u := fun j u hj => by
    rw [add_plain]
    match j, hj with
    | 0, hj => obtain rfl := Option.some.inj hj; exact (blk_cell hg 0).trans rfl
    | 1, hj => obtain rfl := Option.some.inj hj; exact (blk_cell hg 1).trans rfl
  obtain ⟨v1, w1, hrun, hown1, hgr, _, hat⟩ := run_append_own_at (P := Try.prog) w base 24 ty 42 i0 _ 2 24 Try.underlying24 hi hz0 hz1 hz2 rfl (by decide) (.slice A l.length c) l.length inner hown ⟨g, 0, none⟩ 1 1 [.int .u16 y.f0, .string y.f1] rfl hcell (by simp [Value.oneCell']) (by simp only [maxLen]; omega) (by omega) hbase
  refine ⟨v1, w1, hrun, Kd.R_appended (okp := fun _ => False) h0 hr (k42_mkM w base _ y) (fun _ h => h.elim) hfresh hown1 hgr ?_, hgr⟩
  rcases hat with hat | hat
  · exact .inl hat
  · exact .inr ⟨_, hat, Nat.le_refl _⟩
theorem appIA {w : World} {base : Nat} {S : Nat → Prop} {A : Option Addr} {c : Nat} {l : List S51} (y : S51) (Ah : Option Addr) (ch : Nat) {g : Nat} (ty : TypeId) (HO : Kd.R k51 51 w base S (.slice A l.length c) l) (hfresh : ∀ k, w.heap.size ≤ k → S k) (hin : Kd.R k58 58 w base (fun k => S k ∧ some k ≠ Value.ownBlock (.slice A l.length c)) (.slice Ah y.f4.length ch) y.f4) (hg : w.heap[g]? = some (.cells #[.int .i64 y.f0, .int .u32 y.f1, .int .u32 y.f2, .int .u32 y.f3, .slice Ah y.f4.length ch, .int .i64 y.f5] 51 (0, 0))) (hbase : base ≤ w.heap.size) (hlen : l.length < 1000000) :
    ∃ v1 w1, (Builtin.append_ #[23, 23] ty #[.slice A l.length c, .slice (some ⟨g, 0, none⟩) 1 1]).run Try.prog w = .ok v1 w1 ∧ Kd.R k51 51 w1 base S v1 (l ++ [y]) ∧ w.grownBy w1 (Value.ownBlock (.slice A l.length c)) := by
  obtain ⟨h0, inner, hown, hr⟩ := HO
  obtain ⟨i0, hi, hzz⟩ := Option.map_eq_some_iff.1 info51
  simp only [Prod.mk.injEq] at hzz
  obtain ⟨hz0, hz1, hz2⟩ := hzz
  have hcell : ∀ (j : Nat) u, [Value.int .i64 y.f0, .int .u32 y.f1, .int .u32 y.f2, .int .u32 y.f3, .slice Ah y.f4.length ch, .int .i64 y.f5][j]? = some u → w.cell? (Addr.add ⟨g, 0, none⟩ j) = some u := fun j u hj => by
    rw [add_plain]
    match j, hj with
    | 0, hj => obtain rfl := Option.some.inj hj; exact (blk_cell hg 0).trans rfl
    | 1, hj => obtain rfl := Option.some.inj hj; exact (blk_cell hg 1).trans rfl
    | 2, hj => obtain rfl := Option.some.inj hj; exact (blk_cell hg 2).trans rfl
    | 3, hj => obtain rfl := Option.some.inj hj; exact (blk_cell hg 3).trans rfl
    | 4, hj => obtain rfl := Option.some.inj hj; exact (blk_cell hg 4).trans rfl
    | 5, hj => obtain rfl := Option.some.inj hj; exact (blk_cell hg 5).trans rfl
  obtain ⟨v1, w1, hrun, hown1, hgr, _, hat⟩ := run_append_own_at (P := Try.prog) w base 23 ty 51 i0 _ 6 56 Try.underlying23 hi hz0 hz1 hz2 rfl (by decide) (.slice A l.length c) l.length inner hown ⟨g, 0, none⟩ 1 1 [.int .i64 y.f0, .int .u32 y.f1, .int .u32 y.f2, .int .u32 y.f3, .slice Ah y.f4.length ch, .int .i64 y.f5] rfl hcell (by simp [Value.oneCell']) (by simp only [maxLen]; omega) (by omega) hbase
  refine ⟨v1, w1, hrun, Kd.R_appended (okp := fun k => S k ∧ some k ≠ Value.ownBlock (.slice A l.length c)) h0 hr (k51_mkM w base _ y hin) (fun _ h => h) hfresh hown1 hgr ?_, hgr⟩
  rcases hat with hat | hat
  · exact .inl hat
  · exact .inr ⟨_, hat, Nat.le_refl _⟩
def w6optsRegV (gm : Nat) (A : Option Addr) (c : Nat) (n : Nat) (ys : List Value) (S0 : Nat) (R7 : Value → World → Prop) (p : Bool) : Nat → Value → World → Prop
  | 0, v, _ => v = .pointer (some ⟨gm, 0, none⟩)
  | 1, v, _ => v = .pointer (some ⟨gm, 0, none⟩)
  | 2, v, _ => v = .pointer (some ⟨gm, 0, none⟩)
  | 8, v, _ => v = .pointer (some ⟨gm, 0, none⟩)
  | 3, v, _ => v = .pointer (some ⟨gm, 9, none⟩)
  | 9, v, _ => v = .pointer (some ⟨gm, 9, none⟩)
  | 4, v, _ => v = .slice A n c
  | 5, v, _ => v = .agg ys.toArray
  | 6, v, w => p = true ∨ ∃ g, v = .slice (some ⟨g, 0, none⟩) 1 1 ∧ w.heap[g]? = some (.cells ys.toArray 42 (0, 0)) ∧ S0 ≤ g
  | 7, v, w => p = true ∧ R7 v w
  | _, _, _ => True
set_option maxHeartbeats 4000000 in
set_option maxRecDepth 100000 in
theorem w6optsReg (ops : Array Oper) (hops : ops = opsOf Try.f30 32) (id : Nat) (Q : Exit → Act → World → Prop) (act : Act) (w : World) (hsz0 : act.tmps.size = 134) (B gm gx : Nat) (S : Nat → Prop) (hS : ∀ k, w.heap.size ≤ k → S k) (m : Ms) (A : Option Addr) (c : Nat) (vi : Value) (y : S42)
    (h0 : act.eval (.tmp 0) = .pointer (some ⟨gm, 0, none⟩)) (hbx : act.eval (.tmp 4) = .pointer (some ⟨gx, 0, none⟩)) (bm : w.heap[gm]? = some (.cells (m.row vi (.slice A m.opts.length c)) 26 (0, 0))) (bx : w.heap[gx]? = some (.cells #[.int .u16 y.f0, .string y.f1] 42 (0, 0))) (HO : Kd.R k42 42 w B S (.slice A m.opts.length c) m.opts)
    (hnm : some gm ≠ (Value.ownBlock (.slice A m.opts.length c))) (hnx : some gx ≠ (Value.ownBlock (.slice A m.opts.length c))) (hbase : B ≤ w.heap.size) (hlen : m.opts.length < 1000000)
    (hK : ∀ (u : Tmp → Value) (v1 : Value) (W : World), Kd.R k42 42 W B S v1 (m.opts ++ [y]) → w.grownBy W (Value.ownBlock (.slice A m.opts.length c)) → Q .normal (XReg.fills u [124, 125, 126, 127, 128, 129, 130, 131, 132, 133] act) (W.setCell ⟨gm, 9, none⟩ v1)) :
    (Code.region id ops true).wp Try.prog Q act w := by
  subst hops
  refine (wpIn_wide (n := 9)).1 (XReg.region_goP (by kernel_rfl) 10 7 (by decide) (by rw [hsz0]; kernel_rfl) (w6optsRegV gm A c m.opts.length [.int .u16 y.f0, .string y.f1] w.heap.size (fun v W => Kd.R k42 42 W B S v (m.opts ++ [y])))
    (fun p w' => w.grownBy w' (Value.ownBlock (.slice A m.opts.length c)) ∧ (p = false → Below w.heap.size w w')) ?_ (fun p w1 w2 h1 h2 => ⟨grown_then h1.1 h2, fun e => below_step (h1.2 e) h2⟩) ⟨grown_of_bel _ (Below.refl _ w).drew, fun _ => (Below.refl _ w).drew⟩ ?_ ?_ ?_)
  · intro p i v w1 w2 hv hb
    match i, hv with
    | 6, hv =>
      rcases hv with hv | ⟨g, e, hg, hl⟩
      · exact .inl hv
      · exact .inr ⟨g, e, blk_below hg hb, hl⟩
    | 7, hv => exact ⟨hv.1, Kd.R_below hv.2 hb⟩
    | 0, hv | 1, hv | 2, hv | 3, hv | 4, hv | 5, hv | 8, hv | 9, hv => exact hv
    | _ + 10, _ => trivial
  · intro p i o a' w' hi hiq ho hB hdf hr hd
    have cm := blk_grown bm hB.1 hnm
    have cx := blk_grown bx hB.1 hnx
    have hsz_ := hB.1.size
    have hcases : i = 0 ∨ i = 1 ∨ i = 2 ∨ i = 3 ∨ i = 4 ∨ i = 5 ∨ i = 6 ∨ i = 8 ∨ i = 9 := by omega
    rcases hcases with rfl | rfl | rfl | rfl | rfl | rfl | rfl | rfl | rfl
    · obtain ⟨hop, hdst⟩ := XReg.op_is (x := .move (.tmp 0)) (d := some 124) ho (by kernel_rfl)
      have e0 := (hr 0 (by kernel_rfl)).trans h0
      refine XReg.val_ (v := .pointer (some ⟨gm, 0, none⟩)) (w1 := w') (by rw [hop]; intro c h; cases h) (by simp [Oper.about, hop]) ?_ ⟨_, rfl, Below.refl _ _, rfl⟩
      unfold execOp
      rw [hop]
      clear hr hd hB hK HO bm bx cm cx
      generalize a'.eval = ρ at e0 ⊢
      go_simp
    · obtain ⟨hop, hdst⟩ := XReg.op_is (x := .move (.tmp 0)) (d := some 125) ho (by kernel_rfl)
      have e0 := (hr 0 (by kernel_rfl)).trans h0
      refine XReg.val_ (v := .pointer (some ⟨gm, 0, none⟩)) (w1 := w') (by rw [hop]; intro c h; cases h) (by simp [Oper.about, hop]) ?_ ⟨_, rfl, Below.refl _ _, rfl⟩
      unfold execOp
      rw [hop]
      clear hr hd hB hK HO bm bx cm cx
      generalize a'.eval = ρ at e0 ⊢
      go_simp
    · obtain ⟨hop, hdst⟩ := XReg.op_is (x := .nilCheck (.tmp 125)) (d := some 126) ho (by kernel_rfl)
      have e0 : a'.eval (.tmp 125) = .pointer (some ⟨gm, 0, none⟩) := hd 1 125 (by kernel_rfl) (by omega)
      refine XReg.val_ (v := .pointer (some ⟨gm, 0, none⟩)) (w1 := w') (by rw [hop]; intro c h; cases h) (by simp [Oper.about, hop]) ?_ ⟨_, rfl, Below.refl _ _, rfl⟩
      unfold execOp
      rw [hop]
      clear hr hd hB hK HO bm bx cm cx
      generalize a'.eval = ρ at e0 ⊢
      go_simp
    · obtain ⟨hop, hdst⟩ := XReg.op_is (x := .fieldAddr 26 (.tmp 126) 9) (d := some 127) ho (by kernel_rfl)
      have e0 : a'.eval (.tmp 126) = .pointer (some ⟨gm, 0, none⟩) := hd 2 126 (by kernel_rfl) (by omega)
      have hu0 := Try.underlying26
      refine XReg.val_ (v := .pointer (some ⟨gm, 9, none⟩)) (w1 := w') (by rw [hop]; intro c h; cases h) (by simp [Oper.about, hop]) ?_ ⟨_, rfl, Below.refl _ _, rfl⟩
      unfold execOp
      rw [hop]
      clear hr hd hB hK HO bm bx cm cx
      generalize a'.eval = ρ at e0 ⊢
      go_simp
    · obtain ⟨hop, hdst⟩ := XReg.op_is (x := .load 24 (.tmp 127)) (d := some 128) ho (by kernel_rfl)
      have e0 : a'.eval (.tmp 127) = .pointer (some ⟨gm, 9, none⟩) := hd 3 127 (by kernel_rfl) (by omega)
      have hc : w'.cell? ⟨gm, 9, none⟩ = some (.slice A m.opts.length c) := (blk_cell cm 9).trans rfl
      have hu0 := Try.underlying24
      refine XReg.val_ (v := .slice A m.opts.length c) (w1 := w') (by rw [hop]; intro c h; cases h) (by simp [Oper.about, hop]) ?_ ⟨_, rfl, Below.refl _ _, rfl⟩
      unfold execOp
      rw [hop]
      clear hr hd hB hK HO bm bx cm cx
      generalize a'.eval = ρ at e0 ⊢
      go_simp
    · obtain ⟨hop, hdst⟩ := XReg.op_is (x := .load 42 (.tmp 4)) (d := some 129) ho (by kernel_rfl)
      have e0 := (hr 4 (by kernel_rfl)).trans hbx
      have hc0 : w'.cell? ⟨gx, 0, none⟩ = some (.int .u16 y.f0) := (blk_cell cx 0).trans rfl
      have hc1 : w'.cell? ⟨gx, 1, none⟩ = some (.string y.f1) := (blk_cell cx 1).trans rfl
      have hu0 := Try.underlying42
      refine XReg.val_ (v := .agg #[.int .u16 y.f0, .string y.f1]) (w1 := w') (by rw [hop]; intro c h; cases h) (by simp [Oper.about, hop]) ?_ ⟨_, rfl, Below.refl _ _, rfl⟩
      unfold execOp
      rw [hop]
      clear hr hd hB hK HO bm bx cm cx
      generalize a'.eval = ρ at e0 ⊢
      go_simp
    · obtain ⟨hop, hdst⟩ := XReg.op_is (x := .buildSlice 24 1 #[(0, .tmp 129)]) (d := some 130) ho (by kernel_rfl)
      have e0 : a'.eval (.tmp 129) = .agg #[.int .u16 y.f0, .string y.f1] := hd 5 129 (by kernel_rfl) (by omega)
      have hu0 := Try.underlying24
      have hu1 := Try.underlying42
      refine XReg.val_ (v := .slice (some ⟨w'.heap.size, 0, none⟩) 1 1) (w1 := w'.alloc (.cells #[.int .u16 y.f0, .string y.f1] 42)) (by rw [hop]; intro c h; cases h) (by simp [Oper.about, hop]) ?_ ⟨_, rfl, below_alloc (Below.refl _ _) _, .inr ⟨_, rfl, blk_new w' _, hsz_⟩⟩
      unfold execOp
      rw [hop]
      clear hr hd hB hK HO bm bx cm cx
      generalize a'.eval = ρ at e0 ⊢
      go_simp
    · obtain ⟨hop, hdst⟩ := XReg.op_is (x := .nilCheck (.tmp 124)) (d := some 132) ho (by kernel_rfl)
      have e0 : a'.eval (.tmp 124) = .pointer (some ⟨gm, 0, none⟩) := hd 0 124 (by kernel_rfl) (by omega)
      refine XReg.val_ (v := .pointer (some ⟨gm, 0, none⟩)) (w1 := w') (by rw [hop]; intro c h; cases h) (by simp [Oper.about, hop]) ?_ ⟨_, rfl, Below.refl _ _, rfl⟩
      unfold execOp
      rw [hop]
      clear hr hd hB hK HO bm bx cm cx
      generalize a'.eval = ρ at e0 ⊢
      go_simp
    · obtain ⟨hop, hdst⟩ := XReg.op_is (x := .fieldAddr 26 (.tmp 132) 9) (d := some 133) ho (by kernel_rfl)
      have e0 : a'.eval (.tmp 132) = .pointer (some ⟨gm, 0, none⟩) := hd 8 132 (by kernel_rfl) (by omega)
      have hu0 := Try.underlying26
      refine XReg.val_ (v := .pointer (some ⟨gm, 9, none⟩)) (w1 := w') (by rw [hop]; intro c h; cases h) (by simp [Oper.about, hop]) ?_ ⟨_, rfl, Below.refl _ _, rfl⟩
      unfold execOp
      rw [hop]
      clear hr hd hB hK HO bm bx cm cx
      generalize a'.eval = ρ at e0 ⊢
      go_simp
  · intro o a' w' ho hB hdf hr hd
    have hbw := hB.2 rfl
    obtain ⟨hop, hdst⟩ := XReg.op_is (x := .call { callee := .builtin .append, args := #[.tmp 128, .tmp 130], argTypes := #[24, 24] }) (d := some 131) ho (by kernel_rfl)
    have e0 : a'.eval (.tmp 128) = .slice A m.opts.length c := hd 4 128 (by kernel_rfl) (by omega)
    have h6 : false = true ∨ ∃ g, a'.eval (.tmp 130) = .slice (some ⟨g, 0, none⟩) 1 1 ∧ w'.heap[g]? = some (.cells #[.int .u16 y.f0, .string y.f1] 42 (0, 0)) ∧ w.heap.size ≤ g := hd 6 130 (by kernel_rfl) (by omega)
    obtain ⟨g, e1, hg, hgl⟩ := h6.resolve_left (by decide)
    obtain ⟨v1, w1, hrun, hR, hgr⟩ := appOpt y o.type (Kd.R_below HO hbw) hg (fun k hk => hS k (Nat.le_trans hbw.size hk)) (Nat.le_trans hbase hbw.size) hlen
    refine XReg.val_ (v := v1) (w1 := w1) (by rw [hop]; intro c h; cases h) (by simp [Oper.about, hop, resolve, Target.leads, Sem.run_pure]) ?_ ⟨v1, rfl, ⟨grown_after hbw hgr, fun e => by cases e⟩, ⟨rfl, hR⟩, fun j v' hj hv => ?_⟩
    · unfold execOp
      simp only [hop, resolve, invoke, builtin, Sem.run_bind, Sem.run_pure, Result.andThen_ok, List.map_toArray, List.map_cons, List.map_nil, e0, e1, hrun]
    · match j, hv with
      | 6, hv => exact .inl rfl
      | 7, hv => exact absurd rfl hj
      | 0, hv | 1, hv | 2, hv | 3, hv | 4, hv | 5, hv | 8, hv | 9, hv => exact hv
      | _ + 10, _ => trivial
  · intro o a' w' ho hB hdf hsz' hr hd
    have cm := blk_grown bm hB.1 hnm
    have hfill := XReg.fill_eq [124, 125, 126, 127, 128, 129, 130, 131, 132, 133] hsz' hdf (XReg.rest_of (ops := opsOf Try.f30 32) (m := 10) (by kernel_rfl) hr)
    obtain ⟨hop, hdst⟩ := XReg.op_is (x := .store 24 (.tmp 133) (.tmp 131)) (d := none) ho (by kernel_rfl)
    have e0 : a'.eval (.tmp 133) = .pointer (some ⟨gm, 9, none⟩) := hd 9 133 (by kernel_rfl) (by omega)
    have h7 : true = true ∧ Kd.R k42 42 w' B S (a'.eval (.tmp 131)) (m.opts ++ [y]) := hd 7 131 (by kernel_rfl) (by omega)
    have hR := h7.2
    obtain ⟨A1, c1, e1⟩ := Kd.R_slice hR
    rw [e1] at hR
    have hkk := hK (fun d => a'.eval (.tmp d)) _ w' hR hB.1
    rw [← hfill] at hkk
    have hc : w'.cell? ⟨gm, 9, none⟩ = some (.slice A m.opts.length c) := (blk_cell cm 9).trans rfl
    have hfz := blk_frozen cm 9
    have hu0 := Try.underlying24
    refine XReg.skip_ (w1 := w'.setCell ⟨gm, 9, none⟩ (.slice A1 (m.opts ++ [y]).length c1)) (by rw [hop]; intro c h; cases h) (by simp [Oper.about, hop]) ?_ (by rw [hdst]; exact hkk)
    unfold execOp
    rw [hop]
    clear hr hd hB hfill hkk hK HO h7 hR bm bx cm
    generalize (m.opts ++ [y]).length = n1 at e1 ⊢
    generalize a'.eval = ρ at e0 e1 ⊢
    go_simp
def w6iasRegV (gm : Nat) (A : Option Addr) (c : Nat) (n : Nat) (ys : List Value) (S0 : Nat) (R7 : Value → World → Prop) (p : Bool) : Nat → Value → World → Prop
  | 0, v, _ => v = .pointer (some ⟨gm, 0, none⟩)
  | 1, v, _ => v = .pointer (some ⟨gm, 0, none⟩)
  | 2, v, _ => v = .pointer (some ⟨gm, 0, none⟩)
  | 8, v, _ => v = .pointer (some ⟨gm, 0, none⟩)
  | 3, v, _ => v = .pointer (some ⟨gm, 4, none⟩)
  | 9, v, _ => v = .pointer (some ⟨gm, 4, none⟩)
  | 4, v, _ => v = .slice A n c
  | 5, v, _ => v = .agg ys.toArray
  | 6, v, w => p = true ∨ ∃ g, v = .slice (some ⟨g, 0, none⟩) 1 1 ∧ w.heap[g]? = some (.cells ys.toArray 51 (0, 0)) ∧ S0 ≤ g
  | 7, v, w => p = true ∧ R7 v w
  | _, _, _ => True
set_option maxHeartbeats 4000000 in
set_option maxRecDepth 100000 in
theorem w6iasReg (ops : Array Oper) (hops : ops = opsOf Try.f30 30) (id : Nat) (Q : Exit → Act → World → Prop) (act : Act) (w : World) (hsz0 : act.tmps.size = 134) (B gm gx : Nat) (S : Nat → Prop) (hS : ∀ k, w.heap.size ≤ k → S k) (m : Ms) (A : Option Addr) (c : Nat) (vo : Value) (y : S51) (Ah : Option Addr) (ch : Nat)
    (h0 : act.eval (.tmp 0) = .pointer (some ⟨gm, 0, none⟩)) (hbx : act.eval (.tmp 10) = .pointer (some ⟨gx, 0, none⟩)) (bm : w.heap[gm]? = some (.cells (m.row (.slice A m.ias.length c) vo) 26 (0, 0))) (bx : w.heap[gx]? = some (.cells #[.int .i64 y.f0, .int .u32 y.f1, .int .u32 y.f2, .int .u32 y.f3, .slice Ah y.f4.length ch, .int .i64 y.f5] 51 (0, 0))) (HO : Kd.R k51 51 w B S (.slice A m.ias.length c) m.ias)
    (hnm : some gm ≠ (Value.ownBlock (.slice A m.ias.length c))) (hnx : some gx ≠ (Value.ownBlock (.slice A m.ias.length c))) (hbase : B ≤ w.heap.size) (hlen : m.ias.length < 1000000) (hin : Kd.R k58 58 w B (fun k => S k ∧ some k ≠ Value.ownBlock (.slice A m.ias.length c)) (.slice Ah y.f4.length ch) y.f4)
    (hK : ∀ (u : Tmp → Value) (v1 : Value) (W : World), Kd.R k51 51 W B S v1 (m.ias ++ [y]) → w.grownBy W (Value.ownBlock (.slice A m.ias.length c)) → Q .normal (XReg.fills u [113, 114, 115, 116, 117, 118, 119, 120, 121, 122] act) (W.setCell ⟨gm, 4, none⟩ v1)) :
    (Code.region id ops true).wp Try.prog Q act w := by
  subst hops
  refine (wpIn_wide (n := 9)).1 (XReg.region_goP (by kernel_rfl) 10 7 (by decide) (by rw [hsz0]; kernel_rfl) (w6iasRegV gm A c m.ias.length [.int .i64 y.f0, .int .u32 y.f1, .int .u32 y.f2, .int .u32 y.f3, .slice Ah y.f4.length ch, .int .i64 y.f5] w.heap.size (fun v W => Kd.R k51 51 W B S v (m.ias ++ [y])))
    (fun p w' => w.grownBy w' (Value.ownBlock (.slice A m.ias.length c)) ∧ (p = false → Below w.heap.size w w')) ?_ (fun p w1 w2 h1 h2 => ⟨grown_then h1.1 h2, fun e => below_step (h1.2 e) h2⟩) ⟨grown_of_bel _ (Below.refl _ w).drew, fun _ => (Below.refl _ w).drew⟩ ?_ ?_ ?_)
  · intro p i v w1 w2 hv hb
    match i, hv with
    | 6, hv =>
      rcases hv with hv | ⟨g, e, hg, hl⟩
      · exact .inl hv
      · exact .inr ⟨g, e, blk_below hg hb, hl⟩
    | 7, hv => exact ⟨hv.1, Kd.R_below hv.2 hb⟩
    | 0, hv | 1, hv | 2, hv | 3, hv | 4, hv | 5, hv | 8, hv | 9, hv => exact hv
    | _ + 10, _ => trivial
  · intro p i o a' w' hi hiq ho hB hdf hr hd
    have cm := blk_grown bm hB.1 hnm
    have cx := blk_grown bx hB.1 hnx
    have hsz_ := hB.1.size
    have hcases : i = 0 ∨ i = 1 ∨ i = 2 ∨ i = 3 ∨ i = 4 ∨ i = 5 ∨ i = 6 ∨ i = 8 ∨ i = 9 := by omega
    rcases hcases with rfl | rfl | rfl | rfl | rfl | rfl | rfl | rfl | rfl
    · obtain ⟨hop, hdst⟩ := XReg.op_is (x := .move (.tmp 0)) (d := some 113) ho (by kernel_rfl)
      have e0 := (hr 0 (by kernel_rfl)).trans h0
      refine XReg.val_ (v := .pointer (some ⟨gm, 0, none⟩)) (w1 := w') (by rw [hop]; intro c h; cases h) (by simp [Oper.about, hop]) ?_ ⟨_, rfl, Below.refl _ _, rfl⟩
      unfold execOp
      rw [hop]
      clear hr hd hB hK HO bm bx cm cx
      generalize a'.eval = ρ at e0 ⊢
      go_simp
    · obtain ⟨hop, hdst⟩ := XReg.op_is (x := .move (.tmp 0)) (d := some 114) ho (by kernel_rfl)
      have e0 := (hr 0 (by kernel_rfl)).trans h0
      refine XReg.val_ (v := .pointer (some ⟨gm, 0, none⟩)) (w1 := w') (by rw [hop]; intro c h; cases h) (by simp [Oper.about, hop]) ?_ ⟨_, rfl, Below.refl _ _, rfl⟩
      unfold execOp
      rw [hop]
      clear hr hd hB hK HO bm bx cm cx
      generalize a'.eval = ρ at e0 ⊢
      go_simp
    · obtain ⟨hop, hdst⟩ := XReg.op_is (x := .nilCheck (.tmp 114)) (d := some 115) ho (by kernel_rfl)
      have e0 : a'.eval (.tmp 114) = .pointer (some ⟨gm, 0, none⟩) := hd 1 114 (by kernel_rfl) (by omega)
      refine XReg.val_ (v := .pointer (some ⟨gm, 0, none⟩)) (w1 := w') (by rw [hop]; intro c h; cases h) (by simp [Oper.about, hop]) ?_ ⟨_, rfl, Below.refl _ _, rfl⟩
      unfold execOp
      rw [hop]
      clear hr hd hB hK HO bm bx cm cx
      generalize a'.eval = ρ at e0 ⊢
      go_simp
    · obtain ⟨hop, hdst⟩ := XReg.op_is (x := .fieldAddr 26 (.tmp 115) 4) (d := some 116) ho (by kernel_rfl)
      have e0 : a'.eval (.tmp 115) = .pointer (some ⟨gm, 0, none⟩) := hd 2 115 (by kernel_rfl) (by omega)
      have hu0 := Try.underlying26
      refine XReg.val_ (v := .pointer (some ⟨gm, 4, none⟩)) (w1 := w') (by rw [hop]; intro c h; cases h) (by simp [Oper.about, hop]) ?_ ⟨_, rfl, Below.refl _ _, rfl⟩
      unfold execOp
      rw [hop]
      clear hr hd hB hK HO bm bx cm cx
      generalize a'.eval = ρ at e0 ⊢
      go_simp
    · obtain ⟨hop, hdst⟩ := XReg.op_is (x := .load 23 (.tmp 116)) (d := some 117) ho (by kernel_rfl)
      have e0 : a'.eval (.tmp 116) = .pointer (some ⟨gm, 4, none⟩) := hd 3 116 (by kernel_rfl) (by omega)
      have hc : w'.cell? ⟨gm, 4, none⟩ = some (.slice A m.ias.length c) := (blk_cell cm 4).trans rfl
      have hu0 := Try.underlying23
      refine XReg.val_ (v := .slice A m.ias.length c) (w1 := w') (by rw [hop]; intro c h; cases h) (by simp [Oper.about, hop]) ?_ ⟨_, rfl, Below.refl _ _, rfl⟩
      unfold execOp
      rw [hop]
      clear hr hd hB hK HO bm bx cm cx
      generalize a'.eval = ρ at e0 ⊢
      go_simp
    · obtain ⟨hop, hdst⟩ := XReg.op_is (x := .load 51 (.tmp 10)) (d := some 118) ho (by kernel_rfl)
      have e0 := (hr 10 (by kernel_rfl)).trans hbx
      have hc0 : w'.cell? ⟨gx, 0, none⟩ = some (.int .i64 y.f0) := (blk_cell cx 0).trans rfl
      have hc1 : w'.cell? ⟨gx, 1, none⟩ = some (.int .u32 y.f1) := (blk_cell cx 1).trans rfl
      have hc2 : w'.cell? ⟨gx, 2, none⟩ = some (.int .u32 y.f2) := (blk_cell cx 2).trans rfl
      have hc3 : w'.cell? ⟨gx, 3, none⟩ = some (.int .u32 y.f3) := (blk_cell cx 3).trans rfl
      have hc4 : w'.cell? ⟨gx, 4, none⟩ = some (.slice Ah y.f4.length ch) := (blk_cell cx 4).trans rfl
      have hc5 : w'.cell? ⟨gx, 5, none⟩ = some (.int .i64 y.f5) := (blk_cell cx 5).trans rfl
      have hu0 := Try.underlying51
      refine XReg.val_ (v := .agg #[.int .i64 y.f0, .int .u32 y.f1, .int .u32 y.f2, .int .u32 y.f3, .slice Ah y.f4.length ch, .int .i64 y.f5]) (w1 := w') (by rw [hop]; intro c h; cases h) (by simp [Oper.about, hop]) ?_ ⟨_, rfl, Below.refl _ _, rfl⟩
      unfold execOp
      rw [hop]
      clear hr hd hB hK HO bm bx cm cx
      generalize a'.eval = ρ at e0 ⊢
      go_simp
    · obtain ⟨hop, hdst⟩ := XReg.op_is (x := .buildSlice 23 1 #[(0, .tmp 118)]) (d := some 119) ho (by kernel_rfl)
      have e0 : a'.eval (.tmp 118) = .agg #[.int .i64 y.f0, .int .u32 y.f1, .int .u32 y.f2, .int .u32 y.f3, .slice Ah y.f4.length ch, .int .i64 y.f5] := hd 5 118 (by kernel_rfl) (by omega)
      have hu0 := Try.underlying23
      have hu1 := Try.underlying51
      refine XReg.val_ (v := .slice (some ⟨w'.heap.size, 0, none⟩) 1 1) (w1 := w'.alloc (.cells #[.int .i64 y.f0, .int .u32 y.f1, .int .u32 y.f2, .int .u32 y.f3, .slice Ah y.f4.length ch, .int .i64 y.f5] 51)) (by rw [hop]; intro c h; cases h) (by simp [Oper.about, hop]) ?_ ⟨_, rfl, below_alloc (Below.refl _ _) _, .inr ⟨_, rfl, blk_new w' _, hsz_⟩⟩
      unfold execOp
      rw [hop]
      clear hr hd hB hK HO bm bx cm cx
      generalize a'.eval = ρ at e0 ⊢
      go_simp
    · obtain ⟨hop, hdst⟩ := XReg.op_is (x := .nilCheck (.tmp 113)) (d := some 121) ho (by kernel_rfl)
      have e0 : a'.eval (.tmp 113) = .pointer (some ⟨gm, 0, none⟩) := hd 0 113 (by kernel_rfl) (by omega)
      refine XReg.val_ (v := .pointer (some ⟨gm, 0, none⟩)) (w1 := w') (by rw [hop]; intro c h; cases h) (by simp [Oper.about, hop]) ?_ ⟨_, rfl, Below.refl _ _, rfl⟩
      unfold execOp
      rw [hop]
      clear hr hd hB hK HO bm bx cm cx
      generalize a'.eval = ρ at e0 ⊢
      go_simp
    · obtain ⟨hop, hdst⟩ := XReg.op_is (x := .fieldAddr 26 (.tmp 121) 4) (d := some 122) ho (by kernel_rfl)
      have e0 : a'.eval (.tmp 121) = .pointer (some ⟨gm, 0, none⟩) := hd 8 121 (by kernel_rfl) (by omega)
      have hu0 := Try.underlying26
      refine XReg.val_ (v := .pointer (some ⟨gm, 4, none⟩)) (w1 := w') (by rw [hop]; intro c h; cases h) (by simp [Oper.about, hop]) ?_ ⟨_, rfl, Below.refl _ _, rfl⟩
      unfold execOp
      rw [hop]
      clear hr hd hB hK HO bm bx cm cx
      generalize a'.eval = ρ at e0 ⊢
      go_simp
  · intro o a' w' ho hB hdf hr hd
    have hbw := hB.2 rfl
    obtain ⟨hop, hdst⟩ := XReg.op_is (x := .call { callee := .builtin .append, args := #[.tmp 117, .tmp 119], argTypes := #[23, 23] }) (d := some 120) ho (by kernel_rfl)
    have e0 : a'.eval (.tmp 117) = .slice A m.ias.length c := hd 4 117 (by kernel_rfl) (by omega)
    have h6 : false = true ∨ ∃ g, a'.eval (.tmp 119) = .slice (some ⟨g, 0, none⟩) 1 1 ∧ w'.heap[g]? = some (.cells #[.int .i64 y.f0, .int .u32 y.f1, .int .u32 y.f2, .int .u32 y.f3, .slice Ah y.f4.length ch, .int .i64 y.f5] 51 (0, 0)) ∧ w.heap.size ≤ g := hd 6 119 (by kernel_rfl) (by omega)
    obtain ⟨g, e1, hg, hgl⟩ := h6.resolve_left (by decide)
    obtain ⟨v1, w1, hrun, hR, hgr⟩ := appIA y Ah ch o.type (Kd.R_below HO hbw) (fun k hk => hS k (Nat.le_trans hbw.size hk)) (Kd.R_below hin hbw) hg (Nat.le_trans hbase hbw.size) hlen
    refine XReg.val_ (v := v1) (w1 := w1) (by rw [hop]; intro c h; cases h) (by simp [Oper.about, hop, resolve, Target.leads, Sem.run_pure]) ?_ ⟨v1, rfl, ⟨grown_after hbw hgr, fun e => by cases e⟩, ⟨rfl, hR⟩, fun j v' hj hv => ?_⟩
    · unfold execOp
      simp only [hop, resolve, invoke, builtin, Sem.run_bind, Sem.run_pure, Result.andThen_ok, List.map_toArray, List.map_cons, List.map_nil, e0, e1, hrun]
    · match j, hv with
      | 6, hv => exact .inl rfl
      | 7, hv => exact absurd rfl hj
      | 0, hv | 1, hv | 2, hv | 3, hv | 4, hv | 5, hv | 8, hv | 9, hv => exact hv
      | _ + 10, _ => trivial
  · intro o a' w' ho hB hdf hsz' hr hd
    have cm := blk_grown bm hB.1 hnm
    have hfill := XReg.fill_eq [113, 114, 115, 116, 117, 118, 119, 120, 121, 122] hsz' hdf (XReg.rest_of (ops := opsOf Try.f30 30) (m := 10) (by kernel_rfl) hr)
    obtain ⟨hop, hdst⟩ := XReg.op_is (x := .store 23 (.tmp 122) (.tmp 120)) (d := none) ho (by kernel_rfl)
    have e0 : a'.eval (.tmp 122) = .pointer (some ⟨gm, 4, none⟩) := hd 9 122 (by kernel_rfl) (by omega)
    have h7 : true = true ∧ Kd.R k51 51 w' B S (a'.eval (.tmp 120)) (m.ias ++ [y]) := hd 7 120 (by kernel_rfl) (by omega)
    have hR := h7.2
    obtain ⟨A1, c1, e1⟩ := Kd.R_slice hR
    rw [e1] at hR
    have hkk := hK (fun d => a'.eval (.tmp d)) _ w' hR hB.1
    rw [← hfill] at hkk
    have hc : w'.cell? ⟨gm, 4, none⟩ = some (.slice A m.ias.length c) := (blk_cell cm 4).trans rfl
    have hfz := blk_frozen cm 4
    have hu0 := Try.underlying23
    refine XReg.skip_ (w1 := w'.setCell ⟨gm, 4, none⟩ (.slice A1 (m.ias ++ [y]).length c1)) (by rw [hop]; intro c h; cases h) (by simp [Oper.about, hop]) ?_ (by rw [hdst]; exact hkk)
    unfold execOp
    rw [hop]
    clear hr hd hB hfill hkk hK HO h7 hR bm bx cm
    generalize (m.ias ++ [y]).length = n1 at e1 ⊢
    generalize a'.eval = ρ at e0 e1 ⊢
    go_simp

structure M6 (w0 : World) (B gm : Nat) (S : Nat → Prop) (m : Ms) (W : World) : Prop where
  ex : ∃ vi vo, W.heap[gm]? = some (.cells (m.row vi vo) 26 (0, 0)) ∧ Kd.R k51 51 W B S vi m.ias ∧ Kd.R k42 42 W B S vo m.opts
  bel : Below w0.heap.size w0 W
  low : w0.heap.size ≤ gm ∧ gm < B ∧ B ≤ W.heap.size
/-- What is not the message, nor of its lists, is kept. -/
def Frm (S : Nat → Prop) (gm : Nat) (W W' : World) : Prop := W.heap.size ≤ W'.heap.size ∧ ∀ k, k < W.heap.size → k ≠ gm → ¬ S k → W'.heap[k]? = W.heap[k]?
theorem M6.below {w0 W W' : World} {B gm : Nat} {S : Nat → Prop} {m : Ms} (h : M6 w0 B gm S m W) (hb : Below W.heap.size W W') : M6 w0 B gm S m W' := by
  obtain ⟨⟨vi, vo, h1, h2, h3⟩, h4, h5⟩ := h
  exact ⟨⟨vi, vo, blk_below h1 hb, Kd.R_below h2 hb, Kd.R_below h3 hb⟩, below_step h4 hb, h5.1, h5.2.1, Nat.le_trans h5.2.2 hb.size⟩
theorem M6.mono {w0 W : World} {B gm : Nat} {S S' : Nat → Prop} {m : Ms} (h : M6 w0 B gm S m W) (hs : ∀ k, S k → S' k) : M6 w0 B gm S' m W := by
  obtain ⟨⟨vi, vo, h1, h2, h3⟩, h4, h5⟩ := h
  exact ⟨⟨vi, vo, h1, Kd.R_mono h2 hs, Kd.R_mono h3 hs⟩, h4, h5⟩
theorem M6.bound {w0 W : World} {B gm : Nat} {S : Nat → Prop} {m : Ms} (h : M6 w0 B gm S m W) : M6 w0 B gm (fun k => S k ∧ B ≤ k ∧ k < W.heap.size) m W := by
  obtain ⟨⟨vi, vo, h1, h2, h3⟩, h4, h5⟩ := h
  exact ⟨⟨vi, vo, h1, Kd.R_mono (Kd.R_bound h2) (fun k hk => ⟨hk.1, hk.2.1, hk.2.2.1⟩), Kd.R_mono (Kd.R_bound h3) (fun k hk => ⟨hk.1, hk.2.1, hk.2.2.1⟩)⟩, h4, h5⟩
theorem Frm.below {W W' : World} {S : Nat → Prop} {gm : Nat} (hb : Below W.heap.size W W') : Frm S gm W W' := ⟨hb.size, fun k hk _ _ => hb.block k hk⟩
theorem Frm.trans {W W1 W2 : World} {S : Nat → Prop} {gm : Nat} (h1 : Frm S gm W W1) (h2 : Frm S gm W1 W2) : Frm S gm W W2 := ⟨Nat.le_trans h1.1 h2.1, fun k hk hne hs => (h2.2 k (Nat.lt_of_lt_of_le hk h1.1) hne hs).trans (h1.2 k hk hne hs)⟩
theorem Frm.set {W : World} {S : Nat → Prop} {gm : Nat} (i : Nat) (v : Value) : Frm S gm W (W.setCell ⟨gm, i, none⟩ v) := ⟨by rw [World.size_setCell]; exact Nat.le_refl _, fun k _ hne _ => Below.heap_setCell _ _ _ _ hne⟩
theorem M6.set {w0 W : World} {B gm : Nat} {S : Nat → Prop} {m m' : Ms} (h : M6 w0 B gm S m W) (i : Nat) (v : Value) (e : ∀ vi vo, (m.row vi vo).setIfInBounds i v = m'.row vi vo) (hi : m'.ias = m.ias) (ho : m'.opts = m.opts) : M6 w0 B gm S m' (W.setCell ⟨gm, i, none⟩ v) := by
  obtain ⟨⟨vi, vo, h1, h2, h3⟩, h4, h5⟩ := h
  refine ⟨⟨vi, vo, blk_put h1 i v (e vi vo), by rw [hi]; exact Kd.R_set h2 h1 (by decide) i v, by rw [ho]; exact Kd.R_set h3 h1 (by decide) i v⟩, h4.setCell h5.1 v, h5.1, h5.2.1, by rw [World.size_setCell]; exact h5.2.2⟩
theorem Frm.grown {W W' : World} {B gm : Nat} {S : Nat → Prop} {e : Nat} {α : Type} {d : Kd α} {v : Value} {xs : List α} (hr : d.R e W B S v xs) (hg : W.grownBy W' v.ownBlock) : Frm S gm W W' := ⟨hg.size, fun k hk _ hs => hg.block k hk (fun he => hs (hr.1 k he.symm))⟩
theorem bel_grown {w0 W W1 : World} {B : Nat} {S : Nat → Prop} {e : Nat} {α : Type} {d : Kd α} {v : Value} {xs : List α} (hr : d.R e W B S v xs) (hB : w0.heap.size ≤ B) (hs : B ≤ W.heap.size) (hg : W.grownBy W1 v.ownBlock) : Below w0.heap.size W W1 := ⟨hg.os, hg.tape, hg.output, hg.size, fun k hk => hg.block k (by omega) (fun he => by have := Kd.R_base hr k he.symm; omega)⟩
theorem M6.putOpts {w0 W W1 : World} {B gm : Nat} {S : Nat → Prop} {m : Ms} {vi vo v1 : Value} {l : List S42} (h1 : W.heap[gm]? = some (.cells (m.row vi vo) 26 (0, 0))) (h2 : Kd.R k51 51 W B S vi m.ias) (h3 : Kd.R k42 42 W B S vo m.opts) (h4 : Below w0.heap.size w0 W) (h5 : w0.heap.size ≤ gm ∧ gm < B ∧ B ≤ W.heap.size)
    (hr : Kd.R k42 42 W1 B S v1 l) (hg : W.grownBy W1 vo.ownBlock) : M6 w0 B gm S { m with opts := l } (W1.setCell ⟨gm, 9, none⟩ v1) ∧ Frm S gm W (W1.setCell ⟨gm, 9, none⟩ v1) := by
  have hk := blk_grown h1 hg (Kd.R_ne h3 h1 (by decide))
  refine ⟨⟨⟨vi, v1, blk_put hk 9 v1 rfl, Kd.R_set (Kd.R_over h2 h3 (by decide) hg) hk (by decide) 9 v1, Kd.R_set hr hk (by decide) 9 v1⟩, (h4.trans (bel_grown h3 (by omega) h5.2.2 hg)).setCell h5.1 v1, h5.1, h5.2.1, by rw [World.size_setCell]; exact Nat.le_trans h5.2.2 hg.size⟩, (Frm.grown h3 hg).trans (Frm.set 9 v1)⟩
theorem M6.putIas {w0 W W1 : World} {B gm : Nat} {S : Nat → Prop} {m : Ms} {vi vo v1 : Value} {l : List S51} (h1 : W.heap[gm]? = some (.cells (m.row vi vo) 26 (0, 0))) (h2 : Kd.R k51 51 W B S vi m.ias) (h3 : Kd.R k42 42 W B S vo m.opts) (h4 : Below w0.heap.size w0 W) (h5 : w0.heap.size ≤ gm ∧ gm < B ∧ B ≤ W.heap.size)
    (hr : Kd.R k51 51 W1 B S v1 l) (hg : W.grownBy W1 vi.ownBlock) : M6 w0 B gm S { m with ias := l } (W1.setCell ⟨gm, 4, none⟩ v1) ∧ Frm S gm W (W1.setCell ⟨gm, 4, none⟩ v1) := by
  have hk := blk_grown h1 hg (Kd.R_ne h2 h1 (by decide))
  refine ⟨⟨⟨v1, vo, blk_put hk 4 v1 rfl, Kd.R_set hr hk (by decide) 4 v1, Kd.R_set (Kd.R_over h3 h2 (by decide) hg) hk (by decide) 4 v1⟩, (h4.trans (bel_grown h2 (by omega) h5.2.2 hg)).setCell h5.1 v1, h5.1, h5.2.1, by rw [World.size_setCell]; exact Nat.le_trans h5.2.2 hg.size⟩, (Frm.grown h2 hg).trans (Frm.set 4 v1)⟩
def w6only (a b : Bool) : Int := if a = true ∧ b = false then 0 else 130
theorem w6only_f (a b : Bool) : wire6_only.f a b = some (w6only a b) := by cases a <;> cases b <;> rfl
def w6again (x : Int) : Bool := (x == 5) || (x == 6) || (x == 11)
theorem w6again_f (x : Int) : wire6_isAgain.f x = some (w6again x) := by
  unfold wire6_isAgain.f w6again
  by_cases h5 : x = 5
  · rw [if_pos h5, h5]; rfl
  · rw [if_neg h5]
    by_cases h6 : x = 6
    · rw [if_pos h6, h6]; rfl
    · rw [if_neg h6]
      have e5 : (x == 5) = false := by simpa using h5
      have e6 : (x == 6) = false := by simpa using h6
      rw [e5, e6]
      rfl
def w6size (s : ByteArray) : Bool := decide ((1 : Int) ≤ (s.size : Int)) && decide ((s.size : Int) ≤ 130)
def wire6_read.f (m : Ms) (code : Int) (data : ByteArray) (again : Bool) : Option (Ms × Int) :=
  if code = 1 then some ({ m with cl := data }, w6only (w6size data) again)
  else if code = 2 then some ({ m with sv := data }, w6only (w6size data) again)
  else if code = 13 then (opt6_GetStatus.f 1000 data).bind fun p => some ({ m with code := p.1 }, w6only p.2 again)
  else if code = 14 then some ({ m with rap := true }, w6only ((data.size : Int) == 0) again)
  else if code = 20 then some ({ m with acc := true }, w6only ((data.size : Int) == 0) again)
  else if code = 19 then (if (data.size : Int) = 1 then some ({ m with again := bt data 0 }, w6only (w6again (bt data 0)) again) else some (m, 130))
  else if code = 3 ∨ code = 4 ∨ code = 25 then (if m.ias.length < 8 then (opt6_GetIA.f code data).bind fun p => some ({ m with ias := m.ias ++ [⟨p.1, p.2.1, p.2.2.1, p.2.2.2.1, p.2.2.2.2.1, p.2.2.2.2.2.1⟩] }, p.2.2.2.2.2.2) else some (m, 6))
  else if m.opts.length < 1000000 then some ({ m with opts := m.opts ++ [⟨code, data⟩] }, 0) else none
set_option maxHeartbeats 8000000 in
set_option maxRecDepth 100000 in
theorem wire6_read.calls (w0 : World) (B gm : Nat) (S : Nat → Prop) (m m' : Ms) (code : Int) (data : ByteArray) (again : Bool) (r : Int) (w : World) (hm : M6 w0 B gm S m w) (hS : ∀ k, w.heap.size ≤ k → S k) (hsz : data.size ≤ 9223372036854775807) (h : wire6_read.f m code data again = some (m', r)) :
    Calls Try.prog 30 #[.pointer (some ⟨gm, 0, none⟩), .agg #[.int .u16 code, .string data], .bool again] w fun e w' => e = .returned (.int .i64 r) ∧ M6 w0 B gm S m' w' ∧ Frm S gm w w' := by
  have HM := Aside0.mk (hm.below (below_alloc (Below.refl _ w) (.cells #[.int .u16 code, .string data] 42)))
  have HF0 : Aside0 (Frm S gm w (w.alloc (.cells #[.int .u16 code, .string data] 42))) := ⟨Frm.below (below_alloc (Below.refl _ w) _)⟩
  have HS : Aside0 (∀ k, w.heap.size ≤ k → S k) := ⟨hS⟩
  clear hS
  have bo := blk_new w (.cells #[.int .u16 code, .string data] 42)
  have hu26 := Try.underlying26
  have hu42 := Try.underlying42
  have hu51 := Try.underlying51
  unfold wire6_read.f at h
  have GX := Aside0.mk (show gm < w.heap.size by have := hm.low; omega)
  obtain ⟨⟨vi, vo, hblk0, hri0, hro0⟩, hbel0, hlow0⟩ := hm
  obtain ⟨Ai, ci, rfl⟩ := Kd.R_slice hri0
  obtain ⟨Ao, co, rfl⟩ := Kd.R_slice hro0
  have NX0 : Aside0 (∀ k, Value.ownBlock (.slice Ao m.opts.length co) = some k → k < w.heap.size) := ⟨Kd.R_lt hro0⟩
  have BK := Aside0.mk (blk_alloc hblk0 (.cells #[.int .u16 code, .string data] 42))
  have RI := Aside0.mk (Kd.R_alloc hri0 (.cells #[.int .u16 code, .string data] 42))
  have RO := Aside0.mk (Kd.R_alloc hro0 (.cells #[.int .u16 code, .string data] 42))
  have HBL := Aside0.mk (below_alloc hbel0 (.cells #[.int .u16 code, .string data] 42))
  have LOW := Aside0.mk (show w0.heap.size ≤ gm ∧ gm < B ∧ B ≤ (w.alloc (.cells #[.int .u16 code, .string data] 42)).heap.size from ⟨hlow0.1, hlow0.2.1, by rw [World.size_alloc]; omega⟩)
  have HW0 : Aside0 (w.heap.size ≤ (w.alloc (.cells #[.int .u16 code, .string data] 42)).heap.size) := ⟨by rw [World.size_alloc]; omega⟩
  clear hblk0 hri0 hro0 hbel0 hlow0
  go_enter Try.func30, Try.ntmps30
  go_upto_region 1 with fail
  generalize w.alloc (.cells #[.int .u16 code, .string data] 42) = W0 at HM HF0 bo BK RI RO HBL LOW HW0 ⊢
  generalize w.heap.size = gx at bo GX NX0 HS HW0 ⊢
  have NX : Aside0 (some gx ≠ Value.ownBlock (.slice Ao m.opts.length co)) := ⟨fun e => by have := NX0.out gx e.symm; omega⟩
  have BO := Aside0.mk bo
  have ho0 : World.cell? W0 ⟨gx, 0, none⟩ = some (.int .u16 code) := (blk_cell bo 0).trans rfl
  have ho1 : World.cell? W0 ⟨gx, 1, none⟩ = some (.string data) := (blk_cell bo 1).trans rfl
  have hblk := BK.out
  clear bo NX0
  have hm2 : World.cell? W0 ⟨gm, 2, none⟩ = some (.string m.cl) := (blk_cell hblk 2).trans rfl
  have hf2 := blk_frozen hblk 2
  have hm3 : World.cell? W0 ⟨gm, 3, none⟩ = some (.string m.sv) := (blk_cell hblk 3).trans rfl
  have hf3 := blk_frozen hblk 3
  have hm4 : World.cell? W0 ⟨gm, 4, none⟩ = some (.slice Ai m.ias.length ci) := (blk_cell hblk 4).trans rfl
  have hf4 := blk_frozen hblk 4
  have hm5 : World.cell? W0 ⟨gm, 5, none⟩ = some (.int .i64 m.code) := (blk_cell hblk 5).trans rfl
  have hf5 := blk_frozen hblk 5
  have hm6 : World.cell? W0 ⟨gm, 6, none⟩ = some (.bool m.rap) := (blk_cell hblk 6).trans rfl
  have hf6 := blk_frozen hblk 6
  have hm7 : World.cell? W0 ⟨gm, 7, none⟩ = some (.bool m.acc) := (blk_cell hblk 7).trans rfl
  have hf7 := blk_frozen hblk 7
  have hm8 : World.cell? W0 ⟨gm, 8, none⟩ = some (.int .i64 m.again) := (blk_cell hblk 8).trans rfl
  have hf8 := blk_frozen hblk 8
  have hm9 : World.cell? W0 ⟨gm, 9, none⟩ = some (.slice Ao m.opts.length co) := (blk_cell hblk 9).trans rfl
  have hf9 := blk_frozen hblk 9
  clear hblk
  by_cases c1 : code = 1
  · rw [if_pos c1] at h
    subst c1
    have hmm := Option.some.inj h
    injection hmm with hm1 hr1
    subst hm1 hr1
    clear h
    have M2 := Aside0.mk (HM.out.set (m' := { m with cl := data }) 2 (.string data) (fun _ _ => rfl) rfl rfl)
    have F2 := Aside0.mk (HF0.out.trans (Frm.set (W := W0) (S := S) (gm := gm) 2 (.string data)))
    go_upto_region 5 with fail
    generalize World.setCell W0 ⟨gm, 2, none⟩ (.string data) = W1 at M2 F2 ⊢
    clear HM HF0 BK RI RO HBL LOW BO
    by_cases g1 : (1 : Int) ≤ (data.size : Int)
    · by_cases g2 : (data.size : Int) ≤ 130
      · have HSZ : Aside0 (w6size data = true) := ⟨by unfold w6size; rw [decide_eq_true g1, decide_eq_true g2]; rfl⟩
        go_wp2_with (go_at_call 51; refine (wire6_only.calls true again _ _ (w6only_f _ _)).mono ?_; rintro e W2 ⟨rfl, hd⟩; have M3 := Aside0.mk (M2.out.below hd.below); have F3 := Aside0.mk (F2.out.trans (Frm.below hd.below)); clear hd)
        go_ret
        exact ⟨by rw [HSZ.out]; rfl, M3.out, F3.out⟩
      · have HSZ : Aside0 (w6size data = false) := ⟨by unfold w6size; rw [decide_eq_true g1, decide_eq_false g2]; rfl⟩
        have g3 : (130 : Int) < (data.size : Int) := by omega
        go_wp2_with (go_at_call 51; refine (wire6_only.calls false again _ _ (w6only_f _ _)).mono ?_; rintro e W2 ⟨rfl, hd⟩; have M3 := Aside0.mk (M2.out.below hd.below); have F3 := Aside0.mk (F2.out.trans (Frm.below hd.below)); clear hd)
        go_ret
        exact ⟨by rw [HSZ.out]; rfl, M3.out, F3.out⟩
    · have HSZ : Aside0 (w6size data = false) := ⟨by unfold w6size; rw [decide_eq_false g1]; rfl⟩
      have g3 : (data.size : Int) < 1 := by omega
      go_wp2_with (go_at_call 51; refine (wire6_only.calls false again _ _ (w6only_f _ _)).mono ?_; rintro e W2 ⟨rfl, hd⟩; have M3 := Aside0.mk (M2.out.below hd.below); have F3 := Aside0.mk (F2.out.trans (Frm.below hd.below)); clear hd)
      go_ret
      exact ⟨by rw [HSZ.out]; rfl, M3.out, F3.out⟩
  · by_cases c2 : code = 2
    · rw [if_neg c1, if_pos c2] at h
      subst c2
      have hmm := Option.some.inj h
      injection hmm with hm1 hr1
      subst hm1 hr1
      clear h
      have M2 := Aside0.mk (HM.out.set (m' := { m with sv := data }) 3 (.string data) (fun _ _ => rfl) rfl rfl)
      have F2 := Aside0.mk (HF0.out.trans (Frm.set (W := W0) (S := S) (gm := gm) 3 (.string data)))
      go_upto_region 8 with fail
      generalize World.setCell W0 ⟨gm, 3, none⟩ (.string data) = W1 at M2 F2 ⊢
      clear HM HF0 BK RI RO HBL LOW BO
      by_cases g1 : (1 : Int) ≤ (data.size : Int)
      · by_cases g2 : (data.size : Int) ≤ 130
        · have HSZ : Aside0 (w6size data = true) := ⟨by unfold w6size; rw [decide_eq_true g1, decide_eq_true g2]; rfl⟩
          go_wp2_with (go_at_call 51; refine (wire6_only.calls true again _ _ (w6only_f _ _)).mono ?_; rintro e W2 ⟨rfl, hd⟩; have M3 := Aside0.mk (M2.out.below hd.below); have F3 := Aside0.mk (F2.out.trans (Frm.below hd.below)); clear hd)
          go_ret
          exact ⟨by rw [HSZ.out]; rfl, M3.out, F3.out⟩
        · have HSZ : Aside0 (w6size data = false) := ⟨by unfold w6size; rw [decide_eq_true g1, decide_eq_false g2]; rfl⟩
          have g3 : (130 : Int) < (data.size : Int) := by omega
          go_wp2_with (go_at_call 51; refine (wire6_only.calls false again _ _ (w6only_f _ _)).mono ?_; rintro e W2 ⟨rfl, hd⟩; have M3 := Aside0.mk (M2.out.below hd.below); have F3 := Aside0.mk (F2.out.trans (Frm.below hd.below)); clear hd)
          go_ret
          exact ⟨by rw [HSZ.out]; rfl, M3.out, F3.out⟩
      · have HSZ : Aside0 (w6size data = false) := ⟨by unfold w6size; rw [decide_eq_false g1]; rfl⟩
        have g3 : (data.size : Int) < 1 := by omega
        go_wp2_with (go_at_call 51; refine (wire6_only.calls false again _ _ (w6only_f _ _)).mono ?_; rintro e W2 ⟨rfl, hd⟩; have M3 := Aside0.mk (M2.out.below hd.below); have F3 := Aside0.mk (F2.out.trans (Frm.below hd.below)); clear hd)
        go_ret
        exact ⟨by rw [HSZ.out]; rfl, M3.out, F3.out⟩
    · by_cases c13 : code = 13
      · rw [if_neg c1, if_neg c2, if_pos c13] at h
        subst c13
        obtain ⟨⟨c, ok⟩, hp, hp2⟩ := Option.bind_eq_some_iff.1 h
        have hmm := Option.some.inj hp2
        injection hmm with hm1 hr1
        subst hm1 hr1
        have HP := Aside0.mk hp
        clear h hp hp2
        go_upto_region 11 with (go_at_call 52; refine (opt6_GetStatus.calls 1000 data c ok _ HP.out).mono ?_; rintro e W1 ⟨rfl, hb⟩; have M1 := Aside0.mk (HM.out.below hb); have F1 := Aside0.mk (HF0.out.trans (Frm.below hb)); clear hb)
        obtain ⟨⟨vi1, vo1, hblk1, _, _⟩, _, _⟩ := M1.out
        have hc1 : World.cell? W1 ⟨gm, 5, none⟩ = some (.int .i64 m.code) := (blk_cell hblk1 5).trans rfl
        have hfr1 := blk_frozen hblk1 5
        clear hblk1
        have M2 := Aside0.mk (M1.out.set (m' := { m with code := c }) 5 (.int .i64 c) (fun _ _ => rfl) rfl rfl)
        have F2 := Aside0.mk (F1.out.trans (Frm.set (W := W1) (S := S) (gm := gm) 5 (.int .i64 c)))
        go_upto_region 12 with fail
        generalize World.setCell W1 ⟨gm, 5, none⟩ (.int .i64 c) = W3 at M2 F2 ⊢
        clear HM HF0 BK RI RO HBL LOW BO
        clear hc1 hfr1 M1 F1
        go_wp2_with (go_at_call 51; refine (wire6_only.calls ok again _ _ (w6only_f _ _)).mono ?_; rintro e W2 ⟨rfl, hd⟩; have M3 := Aside0.mk (M2.out.below hd.below); have F3 := Aside0.mk (F2.out.trans (Frm.below hd.below)); clear hd)
        go_ret
        exact ⟨rfl, M3.out, F3.out⟩
      · by_cases c14 : code = 14
        · rw [if_neg c1, if_neg c2, if_neg c13, if_pos c14] at h
          subst c14
          have hmm := Option.some.inj h
          injection hmm with hm1 hr1
          subst hm1 hr1
          clear h
          have M2 := Aside0.mk (HM.out.set (m' := { m with rap := true }) 6 (.bool true) (fun _ _ => rfl) rfl rfl)
          have F2 := Aside0.mk (HF0.out.trans (Frm.set (W := W0) (S := S) (gm := gm) 6 (.bool true)))
          go_upto_region 15 with fail
          generalize World.setCell W0 ⟨gm, 6, none⟩ (.bool true) = W1 at M2 F2 ⊢
          clear HM HF0 BK RI RO HBL LOW BO
          by_cases g1 : (data.size : Int) = 0
          · have HSZ : Aside0 (((data.size : Int) == 0) = true) := ⟨by simpa using g1⟩
            go_wp2_with (go_at_call 51; refine (wire6_only.calls true again _ _ (w6only_f _ _)).mono ?_; rintro e W2 ⟨rfl, hd⟩; have M3 := Aside0.mk (M2.out.below hd.below); have F3 := Aside0.mk (F2.out.trans (Frm.below hd.below)); clear hd)
            go_ret
            exact ⟨by rw [HSZ.out]; rfl, M3.out, F3.out⟩
          · have HSZ : Aside0 (((data.size : Int) == 0) = false) := ⟨by simpa using g1⟩
            have hq0 := HSZ.out
            have g2 : ¬ data.size = 0 := by omega
            have hq1 : (data.size == 0) = false := by simpa using g2
            go_wp2_with (go_at_call 51; refine (wire6_only.calls false again _ _ (w6only_f _ _)).mono ?_; rintro e W2 ⟨rfl, hd⟩; have M3 := Aside0.mk (M2.out.below hd.below); have F3 := Aside0.mk (F2.out.trans (Frm.below hd.below)); clear hd)
            go_ret
            exact ⟨by rw [HSZ.out]; rfl, M3.out, F3.out⟩
        · by_cases c20 : code = 20
          · rw [if_neg c1, if_neg c2, if_neg c13, if_neg c14, if_pos c20] at h
            subst c20
            have hmm := Option.some.inj h
            injection hmm with hm1 hr1
            subst hm1 hr1
            clear h
            have M2 := Aside0.mk (HM.out.set (m' := { m with acc := true }) 7 (.bool true) (fun _ _ => rfl) rfl rfl)
            have F2 := Aside0.mk (HF0.out.trans (Frm.set (W := W0) (S := S) (gm := gm) 7 (.bool true)))
            go_upto_region 18 with fail
            generalize World.setCell W0 ⟨gm, 7, none⟩ (.bool true) = W1 at M2 F2 ⊢
            clear HM HF0 BK RI RO HBL LOW BO
            by_cases g1 : (data.size : Int) = 0
            · have HSZ : Aside0 (((data.size : Int) == 0) = true) := ⟨by simpa using g1⟩
              go_wp2_with (go_at_call 51; refine (wire6_only.calls true again _ _ (w6only_f _ _)).mono ?_; rintro e W2 ⟨rfl, hd⟩; have M3 := Aside0.mk (M2.out.below hd.below); have F3 := Aside0.mk (F2.out.trans (Frm.below hd.below)); clear hd)
              go_ret
              exact ⟨by rw [HSZ.out]; rfl, M3.out, F3.out⟩
            · have HSZ : Aside0 (((data.size : Int) == 0) = false) := ⟨by simpa using g1⟩
              have hq0 := HSZ.out
              have g2 : ¬ data.size = 0 := by omega
              have hq1 : (data.size == 0) = false := by simpa using g2
              go_wp2_with (go_at_call 51; refine (wire6_only.calls false again _ _ (w6only_f _ _)).mono ?_; rintro e W2 ⟨rfl, hd⟩; have M3 := Aside0.mk (M2.out.below hd.below); have F3 := Aside0.mk (F2.out.trans (Frm.below hd.below)); clear hd)
              go_ret
              exact ⟨by rw [HSZ.out]; rfl, M3.out, F3.out⟩
          · by_cases c19 : code = 19
            · rw [if_neg c1, if_neg c2, if_neg c13, if_neg c14, if_neg c20, if_pos c19] at h
              subst c19
              by_cases g1 : (data.size : Int) = 1
              · rw [if_pos g1] at h
                have hmm := Option.some.inj h
                injection hmm with hm1 hr1
                subst hm1 hr1
                clear h
                have g0 := Aside0.mk (show 0 < data.size by omega)
                go_upto_region 22 with fail
                clear g1
                refine w6byteReg _ rfl _ _ _ _ (by kernel_rfl) gm gx data 19 (m.row (.slice Ai m.ias.length ci) (.slice Ao m.opts.length co)) (.int .i64 m.again) rfl rfl BK.out rfl BO.out g0 ?_
                intro u W5 hb5
                have M2 := Aside0.mk ((HM.out.below hb5).set (m' := { m with again := bt data 0 }) 8 (.int .i64 (bt data 0)) (fun _ _ => rfl) rfl rfl)
                have F2 := Aside0.mk ((HF0.out.trans (Frm.below hb5)).trans (Frm.set (W := W5) (S := S) (gm := gm) 8 (.int .i64 (bt data 0))))
                clear hb5
                generalize World.setCell W5 ⟨gm, 8, none⟩ (.int .i64 (bt data 0)) = W1 at M2 F2 ⊢
                clear HM HF0 BK RI RO HBL LOW BO
                obtain ⟨⟨vi1, vo1, hblk1, _, _⟩, _, _⟩ := M2.out
                have hc1 : World.cell? W1 ⟨gm, 8, none⟩ = some (.int .i64 (bt data 0)) := (blk_cell hblk1 8).trans rfl
                clear hblk1
                simp only [XReg.fills, List.foldl_cons, List.foldl_nil, Act.put, List.setIfInBounds_toArray, List.set_cons_zero, List.set_cons_succ]
                go_wp2_with (first | (go_at_call 26; refine (wire6_isAgain.calls (bt data 0) _ _ (w6again_f (bt data 0))).mono ?_; rintro e Wa ⟨rfl, hd⟩; have Ma := Aside0.mk (M2.out.below hd.below); have Fa := Aside0.mk (F2.out.trans (Frm.below hd.below)); clear hd) | (go_at_call 51; refine (wire6_only.calls (w6again (bt data 0)) again _ _ (w6only_f _ _)).mono ?_; rintro e Wb ⟨rfl, hd⟩; have M3 := Aside0.mk (Ma.out.below hd.below); have F3 := Aside0.mk (Fa.out.trans (Frm.below hd.below)); clear hd))
                go_ret
                exact ⟨rfl, M3.out, F3.out⟩
              · rw [if_neg g1] at h
                have hmm := Option.some.inj h
                injection hmm with hm1 hr1
                subst hm1 hr1
                clear h
                go_wp2
                go_ret
                exact ⟨rfl, HM.out, HF0.out⟩
            · by_cases c3 : code = 3
              · rw [if_neg c1, if_neg c2, if_neg c13, if_neg c14, if_neg c20, if_neg c19, if_pos (.inl c3)] at h
                subst c3
                by_cases g1 : m.ias.length < 8
                · rw [if_pos g1] at h
                  obtain ⟨⟨k1, i1, t1, t2, hl, k2, ee⟩, hp, hp2⟩ := Option.bind_eq_some_iff.1 h
                  have hmm := Option.some.inj hp2
                  injection hmm with hm1 hr1
                  subst hm1 hr1
                  have HP := Aside0.mk hp
                  clear h hp hp2
                  have g1z : ¬ (8 : Int) ≤ (m.ias.length : Int) := by omega
                  have GL := Aside0.mk g1
                  clear g1 HM ho0
                  have hoo0 : World.cell? W0 ⟨gx, 0, none⟩ = some (.int .u16 3) := (blk_cell BO.out 0).trans rfl
                  go_upto_region 30 with (go_at_call 53; refine (opt6_GetIA.calls 3 data k1 i1 t1 t2 hl k2 ee _ HP.out).mono ?_; rintro e W1 ⟨v4, rfl, hr4, hb⟩; obtain ⟨Ah, ch, rfl⟩ := Kd.R_slice hr4; have R4 := Aside0.mk hr4; have B1 := Aside0.mk hb; clear hr4 hb)
                  have R5 := Aside0.mk (Kd.R_alloc (Kd.R_bound R4.out) (.cells #[.int .i64 k1, .int .u32 i1, .int .u32 t1, .int .u32 t2, .slice Ah hl.length ch, .int .i64 k2] 51))
                  have ba := blk_new W1 (.cells #[.int .i64 k1, .int .u32 i1, .int .u32 t1, .int .u32 t2, .slice Ah hl.length ch, .int .i64 k2] 51)
                  have B2 := Aside0.mk (below_alloc B1.out (.cells #[.int .i64 k1, .int .u32 i1, .int .u32 t1, .int .u32 t2, .slice Ah hl.length ch, .int .i64 k2] 51))
                  have GA := Aside0.mk B1.out.size
                  generalize W1.alloc (.cells #[.int .i64 k1, .int .u32 i1, .int .u32 t1, .int .u32 t2, .slice Ah hl.length ch, .int .i64 k2] 51) = W2 at R5 ba B2 ⊢
                  generalize W1.heap.size = ga at ba GA ⊢
                  have hlt : ∀ k, Value.ownBlock (.slice Ai m.ias.length ci) = some k → k < W0.heap.size := Kd.R_lt RI.out
                  refine w6iasReg _ rfl _ _ _ _ (by kernel_rfl) B gm ga S (fun k hk => HS.out k (by have := HW0.out; have := B2.out.size; omega)) m Ai ci (.slice Ao m.opts.length co) ⟨k1, i1, t1, t2, hl, k2⟩ Ah ch rfl rfl (blk_below BK.out B2.out) ba (Kd.R_below RI.out B2.out) (Kd.R_ne RI.out BK.out (by decide)) (fun e => by have := hlt ga e.symm; have := GA.out; omega) (Nat.le_trans LOW.out.2.2 B2.out.size) (by have := GL.out; omega) (Kd.R_lower (Kd.R_mono R5.out (fun k hk => ⟨HS.out k (by have := HW0.out; have := hk.2.1; omega), fun e => by have := hlt k e.symm; have := hk.2.1; omega⟩)) LOW.out.2.2) ?_
                  intro u v1 W3 hr hg
                  obtain ⟨M3, F3⟩ := M6.putIas (blk_below BK.out B2.out) (Kd.R_below RI.out B2.out) (Kd.R_below RO.out B2.out) (below_step HBL.out B2.out) ⟨LOW.out.1, LOW.out.2.1, Nat.le_trans LOW.out.2.2 B2.out.size⟩ hr hg
                  have M4 := Aside0.mk M3
                  have F4 := Aside0.mk (HF0.out.trans ((Frm.below B2.out).trans F3))
                  clear M3 F3 hr hg R4 R5 ba B1 B2 GA hlt BO HF0 BK RI RO HBL LOW hoo0
                  generalize World.setCell W3 ⟨gm, 4, none⟩ v1 = W4 at M4 F4 ⊢
                  simp only [XReg.fills, List.foldl_cons, List.foldl_nil, Act.put, List.setIfInBounds_toArray, List.set_cons_zero, List.set_cons_succ]
                  go_wp2
                  go_ret
                  exact ⟨rfl, M4.out, F4.out⟩
                · rw [if_neg g1] at h
                  have hmm := Option.some.inj h
                  injection hmm with hm1 hr1
                  subst hm1 hr1
                  clear h
                  have g1z : (8 : Int) ≤ (m.ias.length : Int) := by omega
                  go_wp2
                  go_ret
                  exact ⟨rfl, HM.out, HF0.out⟩
              · by_cases c4 : code = 4
                · rw [if_neg c1, if_neg c2, if_neg c13, if_neg c14, if_neg c20, if_neg c19, if_pos (.inr (.inl c4))] at h
                  subst c4
                  by_cases g1 : m.ias.length < 8
                  · rw [if_pos g1] at h
                    obtain ⟨⟨k1, i1, t1, t2, hl, k2, ee⟩, hp, hp2⟩ := Option.bind_eq_some_iff.1 h
                    have hmm := Option.some.inj hp2
                    injection hmm with hm1 hr1
                    subst hm1 hr1
                    have HP := Aside0.mk hp
                    clear h hp hp2
                    have g1z : ¬ (8 : Int) ≤ (m.ias.length : Int) := by omega
                    have GL := Aside0.mk g1
                    clear g1 HM ho0
                    have hoo0 : World.cell? W0 ⟨gx, 0, none⟩ = some (.int .u16 4) := (blk_cell BO.out 0).trans rfl
                    go_upto_region 30 with (go_at_call 53; refine (opt6_GetIA.calls 4 data k1 i1 t1 t2 hl k2 ee _ HP.out).mono ?_; rintro e W1 ⟨v4, rfl, hr4, hb⟩; obtain ⟨Ah, ch, rfl⟩ := Kd.R_slice hr4; have R4 := Aside0.mk hr4; have B1 := Aside0.mk hb; clear hr4 hb)
                    have R5 := Aside0.mk (Kd.R_alloc (Kd.R_bound R4.out) (.cells #[.int .i64 k1, .int .u32 i1, .int .u32 t1, .int .u32 t2, .slice Ah hl.length ch, .int .i64 k2] 51))
                    have ba := blk_new W1 (.cells #[.int .i64 k1, .int .u32 i1, .int .u32 t1, .int .u32 t2, .slice Ah hl.length ch, .int .i64 k2] 51)
                    have B2 := Aside0.mk (below_alloc B1.out (.cells #[.int .i64 k1, .int .u32 i1, .int .u32 t1, .int .u32 t2, .slice Ah hl.length ch, .int .i64 k2] 51))
                    have GA := Aside0.mk B1.out.size
                    generalize W1.alloc (.cells #[.int .i64 k1, .int .u32 i1, .int .u32 t1, .int .u32 t2, .slice Ah hl.length ch, .int .i64 k2] 51) = W2 at R5 ba B2 ⊢
                    generalize W1.heap.size = ga at ba GA ⊢
                    have hlt : ∀ k, Value.ownBlock (.slice Ai m.ias.length ci) = some k → k < W0.heap.size := Kd.R_lt RI.out
                    refine w6iasReg _ rfl _ _ _ _ (by kernel_rfl) B gm ga S (fun k hk => HS.out k (by have := HW0.out; have := B2.out.size; omega)) m Ai ci (.slice Ao m.opts.length co) ⟨k1, i1, t1, t2, hl, k2⟩ Ah ch rfl rfl (blk_below BK.out B2.out) ba (Kd.R_below RI.out B2.out) (Kd.R_ne RI.out BK.out (by decide)) (fun e => by have := hlt ga e.symm; have := GA.out; omega) (Nat.le_trans LOW.out.2.2 B2.out.size) (by have := GL.out; omega) (Kd.R_lower (Kd.R_mono R5.out (fun k hk => ⟨HS.out k (by have := HW0.out; have := hk.2.1; omega), fun e => by have := hlt k e.symm; have := hk.2.1; omega⟩)) LOW.out.2.2) ?_
                    intro u v1 W3 hr hg
                    obtain ⟨M3, F3⟩ := M6.putIas (blk_below BK.out B2.out) (Kd.R_below RI.out B2.out) (Kd.R_below RO.out B2.out) (below_step HBL.out B2.out) ⟨LOW.out.1, LOW.out.2.1, Nat.le_trans LOW.out.2.2 B2.out.size⟩ hr hg
                    have M4 := Aside0.mk M3
                    have F4 := Aside0.mk (HF0.out.trans ((Frm.below B2.out).trans F3))
                    clear M3 F3 hr hg R4 R5 ba B1 B2 GA hlt BO HF0 BK RI RO HBL LOW hoo0
                    generalize World.setCell W3 ⟨gm, 4, none⟩ v1 = W4 at M4 F4 ⊢
                    simp only [XReg.fills, List.foldl_cons, List.foldl_nil, Act.put, List.setIfInBounds_toArray, List.set_cons_zero, List.set_cons_succ]
                    go_wp2
                    go_ret
                    exact ⟨rfl, M4.out, F4.out⟩
                  · rw [if_neg g1] at h
                    have hmm := Option.some.inj h
                    injection hmm with hm1 hr1
                    subst hm1 hr1
                    clear h
                    have g1z : (8 : Int) ≤ (m.ias.length : Int) := by omega
                    go_wp2
                    go_ret
                    exact ⟨rfl, HM.out, HF0.out⟩
                · by_cases c25 : code = 25
                  · rw [if_neg c1, if_neg c2, if_neg c13, if_neg c14, if_neg c20, if_neg c19, if_pos (.inr (.inr c25))] at h
                    subst c25
                    by_cases g1 : m.ias.length < 8
                    · rw [if_pos g1] at h
                      obtain ⟨⟨k1, i1, t1, t2, hl, k2, ee⟩, hp, hp2⟩ := Option.bind_eq_some_iff.1 h
                      have hmm := Option.some.inj hp2
                      injection hmm with hm1 hr1
                      subst hm1 hr1
                      have HP := Aside0.mk hp
                      clear h hp hp2
                      have g1z : ¬ (8 : Int) ≤ (m.ias.length : Int) := by omega
                      have GL := Aside0.mk g1
                      clear g1 HM ho0
                      have hoo0 : World.cell? W0 ⟨gx, 0, none⟩ = some (.int .u16 25) := (blk_cell BO.out 0).trans rfl
                      go_upto_region 30 with (go_at_call 53; refine (opt6_GetIA.calls 25 data k1 i1 t1 t2 hl k2 ee _ HP.out).mono ?_; rintro e W1 ⟨v4, rfl, hr4, hb⟩; obtain ⟨Ah, ch, rfl⟩ := Kd.R_slice hr4; have R4 := Aside0.mk hr4; have B1 := Aside0.mk hb; clear hr4 hb)
                      have R5 := Aside0.mk (Kd.R_alloc (Kd.R_bound R4.out) (.cells #[.int .i64 k1, .int .u32 i1, .int .u32 t1, .int .u32 t2, .slice Ah hl.length ch, .int .i64 k2] 51))
                      have ba := blk_new W1 (.cells #[.int .i64 k1, .int .u32 i1, .int .u32 t1, .int .u32 t2, .slice Ah hl.length ch, .int .i64 k2] 51)
                      have B2 := Aside0.mk (below_alloc B1.out (.cells #[.int .i64 k1, .int .u32 i1, .int .u32 t1, .int .u32 t2, .slice Ah hl.length ch, .int .i64 k2] 51))
                      have GA := Aside0.mk B1.out.size
                      generalize W1.alloc (.cells #[.int .i64 k1, .int .u32 i1, .int .u32 t1, .int .u32 t2, .slice Ah hl.length ch, .int .i64 k2] 51) = W2 at R5 ba B2 ⊢
                      generalize W1.heap.size = ga at ba GA ⊢
                      have hlt : ∀ k, Value.ownBlock (.slice Ai m.ias.length ci) = some k → k < W0.heap.size := Kd.R_lt RI.out
                      refine w6iasReg _ rfl _ _ _ _ (by kernel_rfl) B gm ga S (fun k hk => HS.out k (by have := HW0.out; have := B2.out.size; omega)) m Ai ci (.slice Ao m.opts.length co) ⟨k1, i1, t1, t2, hl, k2⟩ Ah ch rfl rfl (blk_below BK.out B2.out) ba (Kd.R_below RI.out B2.out) (Kd.R_ne RI.out BK.out (by decide)) (fun e => by have := hlt ga e.symm; have := GA.out; omega) (Nat.le_trans LOW.out.2.2 B2.out.size) (by have := GL.out; omega) (Kd.R_lower (Kd.R_mono R5.out (fun k hk => ⟨HS.out k (by have := HW0.out; have := hk.2.1; omega), fun e => by have := hlt k e.symm; have := hk.2.1; omega⟩)) LOW.out.2.2) ?_
                      intro u v1 W3 hr hg
                      obtain ⟨M3, F3⟩ := M6.putIas (blk_below BK.out B2.out) (Kd.R_below RI.out B2.out) (Kd.R_below RO.out B2.out) (below_step HBL.out B2.out) ⟨LOW.out.1, LOW.out.2.1, Nat.le_trans LOW.out.2.2 B2.out.size⟩ hr hg
                      have M4 := Aside0.mk M3
                      have F4 := Aside0.mk (HF0.out.trans ((Frm.below B2.out).trans F3))
                      clear M3 F3 hr hg R4 R5 ba B1 B2 GA hlt BO HF0 BK RI RO HBL LOW hoo0
                      generalize World.setCell W3 ⟨gm, 4, none⟩ v1 = W4 at M4 F4 ⊢
                      simp only [XReg.fills, List.foldl_cons, List.foldl_nil, Act.put, List.setIfInBounds_toArray, List.set_cons_zero, List.set_cons_succ]
                      go_wp2
                      go_ret
                      exact ⟨rfl, M4.out, F4.out⟩
                    · rw [if_neg g1] at h
                      have hmm := Option.some.inj h
                      injection hmm with hm1 hr1
                      subst hm1 hr1
                      clear h
                      have g1z : (8 : Int) ≤ (m.ias.length : Int) := by omega
                      go_wp2
                      go_ret
                      exact ⟨rfl, HM.out, HF0.out⟩
                  · have c3n : ¬ (code = 3 ∨ code = 4 ∨ code = 25) := fun e => by rcases e with e | e | e; exact c3 e; exact c4 e; exact c25 e
                    rw [if_neg c1, if_neg c2, if_neg c13, if_neg c14, if_neg c20, if_neg c19, if_neg c3n] at h
                    by_cases g1 : m.opts.length < 1000000
                    · rw [if_pos g1] at h
                      have hmm := Option.some.inj h
                      injection hmm with hm1 hr1
                      subst hm1 hr1
                      clear h
                      have GL := Aside0.mk g1
                      clear g1 HM
                      go_upto_region 32 with fail
                      refine w6optsReg _ rfl _ _ _ _ (by kernel_rfl) B gm gx S (fun k hk => HS.out k (by have := HW0.out; omega)) m Ao co (.slice Ai m.ias.length ci) ⟨code, data⟩ rfl rfl BK.out BO.out RO.out (Kd.R_ne RO.out BK.out (by decide)) NX.out LOW.out.2.2 GL.out ?_
                      intro u v1 W3 hr hg
                      obtain ⟨M3, F3⟩ := M6.putOpts BK.out RI.out RO.out HBL.out LOW.out hr hg
                      have M4 := Aside0.mk M3
                      have F4 := Aside0.mk (HF0.out.trans F3)
                      clear M3 F3 hr hg BO HF0 BK RI RO HBL LOW
                      generalize World.setCell W3 ⟨gm, 9, none⟩ v1 = W4 at M4 F4 ⊢
                      simp only [XReg.fills, List.foldl_cons, List.foldl_nil, Act.put, List.setIfInBounds_toArray, List.set_cons_zero, List.set_cons_succ]
                      go_wp2
                      go_ret
                      exact ⟨rfl, M4.out, F4.out⟩
                    · rw [if_neg g1] at h
                      cases h

end Go.Proofs.Ythadapbekmmgpaa.X
