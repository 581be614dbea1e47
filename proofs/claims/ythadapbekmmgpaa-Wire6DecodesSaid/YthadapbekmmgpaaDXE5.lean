/- no condition. -/
import Derived.Test.YthadapbekmmgpaaDX0
import Derived.Test.YthadapbekmmgpaaDX9
import Derived.Test.YthadapbekmmgpaaDXCv
import Derived.Test.YthadapbekmmgpaaDXE3
import Derived.Test.YthadapbekmmgpaaDXE4
import Derived.Test.YthadapbekmmgpaaDXIn
import Derived.Test.YthadapbekmmgpaaDXOrow
import Derived.Test.YthadapbekmmgpaaDXReg
import Derived.Test.YthadapbekmmgpaaDXRegF
import Derived.Test.YthadapbekmmgpaaDXRegP
import Derived.Outline
import Derived.Lib.Hide
import Derived.Laws.IdiomCopy
import Derived.Lib.SliceRun
import Derived.WalkSpells
namespace Go.Proofs.Ythadapbekmmgpaa.X
open Go.RowKit Go.Proofs.YthadapbekmmgpaaW.PrintWords Go.Proofs.YthadapbekmmgpaaW.PrintLast Go.Proofs.YthadapbekmmgpaaW.PrintMore
set_option linter.unusedVariables false
set_option linter.unusedSimpArgs false
def w6sameOptV (ga gb : Nat) (ad bd : Addr) (n ca cb kk : Nat) (l : List S42) : Nat → Value → World → Prop
  | 0, v, _ => v = .pointer (some ⟨ga, 9, none⟩)
  | 1, v, _ => v = .slice (some ad) n ca
  | 2, v, _ => v = .int .i64 kk
  | 3, v, _ => v = .pointer (some (ad.add (kk * 2)))
  | 4, v, _ => v = .agg #[.int .u16 (rd_T42 l (kk : Int)).f0, .string (rd_T42 l (kk : Int)).f1]
  | 5, v, _ => v = .pointer (some ⟨gb, 9, none⟩)
  | 6, v, _ => v = .slice (some bd) n cb
  | 7, v, _ => v = .int .i64 kk
  | 8, v, _ => v = .pointer (some (bd.add (kk * 2)))
  | 9, v, _ => v = .agg #[.int .u16 (rd_T42 l (kk : Int)).f0, .string (rd_T42 l (kk : Int)).f1]
  | _, _, _ => True
set_option maxHeartbeats 4000000 in
set_option maxRecDepth 100000 in
theorem w6sameOpt (ops : Array Oper) (hops : ops = opsOf Try.f10 6) (id : Nat) (Q : Exit → Act → World → Prop) (act : Act) (w : World) (hsz0 : act.tmps.size = 177) (ga gb : Nat) (ad bd : Addr) (n ca cb kk : Nat) (l : List S42) (rowa rowb : Array Value)
    (ha : act.eval (.tmp 2) = .pointer (some ⟨ga, 0, none⟩)) (hb : act.eval (.tmp 3) = .pointer (some ⟨gb, 0, none⟩)) (hix : act.eval (.tmp 5) = .int .i64 kk) (ba : w.heap[ga]? = some (.cells rowa 26 (0, 0))) (bb : w.heap[gb]? = some (.cells rowb 26 (0, 0))) (ra : rowa[9]? = some (.slice (some ad) n ca)) (rb : rowb[9]? = some (.slice (some bd) n cb)) (hca : Kd.C k42 w (some ad) n l) (hcb : Kd.C k42 w (some bd) n l) (hk : kk < n)
    (hK : ∀ (u : Tmp → Value) (W : World), Below w.heap.size w W → Q .normal ((XReg.fills u [89, 90, 91, 92, 93, 94, 95, 96, 97, 98] act).put (some 99) (.bool false)) W) :
    (Code.region id ops true).wp Try.prog Q act w := by
  subst hops
  refine (wpIn_wide (n := 9)).1 (XReg.region_runD (by kernel_rfl) 10 (by rw [hsz0]; kernel_rfl) (w6sameOptV ga gb ad bd n ca cb kk l)
    (fun w' => Below w.heap.size w w') ?_ (fun w1 w2 h1 h2 => below_step h1 h2) ((Below.refl _ w).drew) ?_ ?_)
  · intro i v w1 w2 hv hb
    match i, hv with
    | 0, hv | 1, hv | 2, hv | 3, hv | 4, hv | 5, hv | 6, hv | 7, hv | 8, hv | 9, hv => exact hv
    | _ + 10, _ => trivial
  · intro i o a' w' hi ho hB hdf hr hd
    have qa := blk_below ba hB
    have qb := blk_below bb hB
    have qca := Kd.C_below hca hB
    have qcb := Kd.C_below hcb hB
    have hcases : i = 0 ∨ i = 1 ∨ i = 2 ∨ i = 3 ∨ i = 4 ∨ i = 5 ∨ i = 6 ∨ i = 7 ∨ i = 8 ∨ i = 9 := by omega
    rcases hcases with rfl | rfl | rfl | rfl | rfl | rfl | rfl | rfl | rfl | rfl
    · obtain ⟨hop, hdst⟩ := XReg.op_is (x := .fieldAddr 26 (.tmp 2) 9) (d := some 89) ho (by kernel_rfl)
      have e0 := (hr 2 (by kernel_rfl)).trans ha
      have hu0 := Try.underlying26
      refine XReg.val_ (v := .pointer (some ⟨ga, 9, none⟩)) (w1 := w') (by rw [hop]; intro c h; cases h) (by simp [Oper.about, hop]) ?_ ⟨_, rfl, Below.refl _ _, rfl⟩
      unfold execOp
      rw [hop]
      clear hr hd hB
      clear qa qb qca qcb ba bb ra rb hca hcb
      generalize a'.eval = ρ at e0 ⊢
      go_simp
    · obtain ⟨hop, hdst⟩ := XReg.op_is (x := .load 24 (.tmp 89)) (d := some 90) ho (by kernel_rfl)
      have e0 : a'.eval (.tmp 89) = .pointer (some ⟨ga, 9, none⟩) := hd 0 89 (by kernel_rfl) (by omega)
      have hc : w'.cell? ⟨ga, 9, none⟩ = some (.slice (some ad) n ca) := (blk_cell qa 9).trans ra
      have hu0 := Try.underlying24
      refine XReg.val_ (v := .slice (some ad) n ca) (w1 := w') (by rw [hop]; intro c h; cases h) (by simp [Oper.about, hop]) ?_ ⟨_, rfl, Below.refl _ _, rfl⟩
      unfold execOp
      rw [hop]
      clear hr hd hB
      clear qa qb qca qcb ba bb ra rb hca hcb
      generalize a'.eval = ρ at e0 ⊢
      go_simp
    · obtain ⟨hop, hdst⟩ := XReg.op_is (x := .move (.tmp 5)) (d := some 91) ho (by kernel_rfl)
      have e0 := (hr 5 (by kernel_rfl)).trans hix
      refine XReg.val_ (v := .int .i64 kk) (w1 := w') (by rw [hop]; intro c h; cases h) (by simp [Oper.about, hop]) ?_ ⟨_, rfl, Below.refl _ _, rfl⟩
      unfold execOp
      rw [hop]
      clear hr hd hB
      clear qa qb qca qcb ba bb ra rb hca hcb
      generalize a'.eval = ρ at e0 ⊢
      go_simp
    · obtain ⟨hop, hdst⟩ := XReg.op_is (x := .indexAddr 24 (.tmp 90) (.tmp 91)) (d := some 92) ho (by kernel_rfl)
      have e0 : a'.eval (.tmp 90) = .slice (some ad) n ca := hd 1 90 (by kernel_rfl) (by omega)
      have e1 : a'.eval (.tmp 91) = .int .i64 kk := hd 2 91 (by kernel_rfl) (by omega)
      have hu0 := Try.underlying24
      have hu1 := Try.underlying42
      have hi_ : (Try.prog.info? 42).map (·.size) = some 2 := by kernel_rfl
      have hkz : (kk : Int) < (n : Int) := by omega
      refine XReg.val_ (v := .pointer (some (ad.add (kk * 2)))) (w1 := w') (by rw [hop]; intro c h; cases h) (by simp [Oper.about, hop]) ?_ ⟨_, rfl, Below.refl _ _, rfl⟩
      unfold execOp
      rw [hop]
      clear hr hd hB
      clear qa qb qca qcb ba bb ra rb hca hcb
      generalize a'.eval = ρ at e0 e1 ⊢
      go_simp
    · obtain ⟨hop, hdst⟩ := XReg.op_is (x := .load 42 (.tmp 92)) (d := some 93) ho (by kernel_rfl)
      have e0 : a'.eval (.tmp 92) = .pointer (some (ad.add (kk * 2))) := hd 3 92 (by kernel_rfl) (by omega)
      obtain ⟨ad_, e_, c0_, c1_⟩ := at_T42 qca (kk : Int) (by omega) (by omega)
      obtain rfl := Option.some.inj e_
      simp only [Int.toNat_natCast] at c0_ c1_
      have hu0 := Try.underlying42
      refine XReg.val_ (v := .agg #[.int .u16 (rd_T42 l (kk : Int)).f0, .string (rd_T42 l (kk : Int)).f1]) (w1 := w') (by rw [hop]; intro c h; cases h) (by simp [Oper.about, hop]) ?_ ⟨_, rfl, Below.refl _ _, rfl⟩
      unfold execOp
      rw [hop]
      clear hr hd hB
      clear qa qb qca qcb ba bb ra rb hca hcb
      generalize rd_T42 l (kk : Int) = x at c0_ c1_ ⊢
      generalize a'.eval = ρ at e0 ⊢
      go_simp
    · obtain ⟨hop, hdst⟩ := XReg.op_is (x := .fieldAddr 26 (.tmp 3) 9) (d := some 94) ho (by kernel_rfl)
      have e0 := (hr 3 (by kernel_rfl)).trans hb
      have hu0 := Try.underlying26
      refine XReg.val_ (v := .pointer (some ⟨gb, 9, none⟩)) (w1 := w') (by rw [hop]; intro c h; cases h) (by simp [Oper.about, hop]) ?_ ⟨_, rfl, Below.refl _ _, rfl⟩
      unfold execOp
      rw [hop]
      clear hr hd hB
      clear qa qb qca qcb ba bb ra rb hca hcb
      generalize a'.eval = ρ at e0 ⊢
      go_simp
    · obtain ⟨hop, hdst⟩ := XReg.op_is (x := .load 24 (.tmp 94)) (d := some 95) ho (by kernel_rfl)
      have e0 : a'.eval (.tmp 94) = .pointer (some ⟨gb, 9, none⟩) := hd 5 94 (by kernel_rfl) (by omega)
      have hc : w'.cell? ⟨gb, 9, none⟩ = some (.slice (some bd) n cb) := (blk_cell qb 9).trans rb
      have hu0 := Try.underlying24
      refine XReg.val_ (v := .slice (some bd) n cb) (w1 := w') (by rw [hop]; intro c h; cases h) (by simp [Oper.about, hop]) ?_ ⟨_, rfl, Below.refl _ _, rfl⟩
      unfold execOp
      rw [hop]
      clear hr hd hB
      clear qa qb qca qcb ba bb ra rb hca hcb
      generalize a'.eval = ρ at e0 ⊢
      go_simp
    · obtain ⟨hop, hdst⟩ := XReg.op_is (x := .move (.tmp 5)) (d := some 96) ho (by kernel_rfl)
      have e0 := (hr 5 (by kernel_rfl)).trans hix
      refine XReg.val_ (v := .int .i64 kk) (w1 := w') (by rw [hop]; intro c h; cases h) (by simp [Oper.about, hop]) ?_ ⟨_, rfl, Below.refl _ _, rfl⟩
      unfold execOp
      rw [hop]
      clear hr hd hB
      clear qa qb qca qcb ba bb ra rb hca hcb
      generalize a'.eval = ρ at e0 ⊢
      go_simp
    · obtain ⟨hop, hdst⟩ := XReg.op_is (x := .indexAddr 24 (.tmp 95) (.tmp 96)) (d := some 97) ho (by kernel_rfl)
      have e0 : a'.eval (.tmp 95) = .slice (some bd) n cb := hd 6 95 (by kernel_rfl) (by omega)
      have e1 : a'.eval (.tmp 96) = .int .i64 kk := hd 7 96 (by kernel_rfl) (by omega)
      have hu0 := Try.underlying24
      have hu1 := Try.underlying42
      have hi_ : (Try.prog.info? 42).map (·.size) = some 2 := by kernel_rfl
      have hkz : (kk : Int) < (n : Int) := by omega
      refine XReg.val_ (v := .pointer (some (bd.add (kk * 2)))) (w1 := w') (by rw [hop]; intro c h; cases h) (by simp [Oper.about, hop]) ?_ ⟨_, rfl, Below.refl _ _, rfl⟩
      unfold execOp
      rw [hop]
      clear hr hd hB
      clear qa qb qca qcb ba bb ra rb hca hcb
      generalize a'.eval = ρ at e0 e1 ⊢
      go_simp
    · obtain ⟨hop, hdst⟩ := XReg.op_is (x := .load 42 (.tmp 97)) (d := some 98) ho (by kernel_rfl)
      have e0 : a'.eval (.tmp 97) = .pointer (some (bd.add (kk * 2))) := hd 8 97 (by kernel_rfl) (by omega)
      obtain ⟨ad_, e_, c0_, c1_⟩ := at_T42 qcb (kk : Int) (by omega) (by omega)
      obtain rfl := Option.some.inj e_
      simp only [Int.toNat_natCast] at c0_ c1_
      have hu0 := Try.underlying42
      refine XReg.val_ (v := .agg #[.int .u16 (rd_T42 l (kk : Int)).f0, .string (rd_T42 l (kk : Int)).f1]) (w1 := w') (by rw [hop]; intro c h; cases h) (by simp [Oper.about, hop]) ?_ ⟨_, rfl, Below.refl _ _, rfl⟩
      unfold execOp
      rw [hop]
      clear hr hd hB
      clear qa qb qca qcb ba bb ra rb hca hcb
      generalize rd_T42 l (kk : Int) = x at c0_ c1_ ⊢
      generalize a'.eval = ρ at e0 ⊢
      go_simp
  · intro o a' w' ho hB hdf hsz' hr hd
    have qa := blk_below ba hB
    have qb := blk_below bb hB
    have qca := Kd.C_below hca hB
    have qcb := Kd.C_below hcb hB
    have hfill := XReg.fill_eq [89, 90, 91, 92, 93, 94, 95, 96, 97, 98] hsz' hdf (XReg.rest_of (ops := opsOf Try.f10 6) (m := 10) (by kernel_rfl) hr)
    obtain ⟨hop, hdst⟩ := XReg.op_is (x := .binOp .neq 42 (.tmp 93) (.tmp 98) 42) (d := some 99) ho (by kernel_rfl)
    have e0 : a'.eval (.tmp 93) = .agg #[.int .u16 (rd_T42 l (kk : Int)).f0, .string (rd_T42 l (kk : Int)).f1] := hd 4 93 (by kernel_rfl) (by omega)
    have e1 : a'.eval (.tmp 98) = .agg #[.int .u16 (rd_T42 l (kk : Int)).f0, .string (rd_T42 l (kk : Int)).f1] := hd 9 98 (by kernel_rfl) (by omega)
    have hu0 := Try.underlying42
    refine XReg.val_ (v := .bool false) (w1 := w') (by rw [hop]; intro c h; cases h) (by simp [Oper.about, hop]) ?_ (by rw [hdst, hfill]; exact hK _ w' hB)
    unfold execOp
    rw [hop]
    clear hr hd hB hfill hK qa qb qca qcb ba bb ra rb hca hcb
    generalize rd_T42 l (kk : Int) = x at e0 e1
    generalize a'.eval = ρ at e0 e1 ⊢
    go_simp
def w6sameInnerV (ga gb : Nat) (ad bd : Addr) (n ca cb kk : Nat) (l : List S58) : Nat → Value → World → Prop
  | 0, v, _ => v = .pointer (some ⟨ga, 4, none⟩)
  | 1, v, _ => v = .slice (some ad) n ca
  | 2, v, _ => v = .int .i64 kk
  | 3, v, _ => v = .pointer (some (ad.add (kk * 6)))
  | 4, v, _ => v = .agg #[.int .u64 (rd_T58 l (kk : Int)).f0.f0.f0, .int .u64 (rd_T58 l (kk : Int)).f0.f0.f1, .int .i64 (rd_T58 l (kk : Int)).f0.f1, .int .u32 (rd_T58 l (kk : Int)).f1, .int .u32 (rd_T58 l (kk : Int)).f2, .int .i64 (rd_T58 l (kk : Int)).f3]
  | 5, v, _ => v = .pointer (some ⟨gb, 4, none⟩)
  | 6, v, _ => v = .slice (some bd) n cb
  | 7, v, _ => v = .int .i64 kk
  | 8, v, _ => v = .pointer (some (bd.add (kk * 6)))
  | 9, v, _ => v = .agg #[.int .u64 (rd_T58 l (kk : Int)).f0.f0.f0, .int .u64 (rd_T58 l (kk : Int)).f0.f0.f1, .int .i64 (rd_T58 l (kk : Int)).f0.f1, .int .u32 (rd_T58 l (kk : Int)).f1, .int .u32 (rd_T58 l (kk : Int)).f2, .int .i64 (rd_T58 l (kk : Int)).f3]
  | _, _, _ => True
set_option maxHeartbeats 4000000 in
set_option maxRecDepth 100000 in
theorem w6sameInner (ops : Array Oper) (hops : ops = opsOf Try.f10 18) (id : Nat) (Q : Exit → Act → World → Prop) (act : Act) (w : World) (hsz0 : act.tmps.size = 177) (ga gb : Nat) (ad bd : Addr) (n ca cb kk : Nat) (l : List S58) (rowa rowb : Array Value)
    (ha : act.eval (.tmp 7) = .pointer (some ⟨ga, 0, none⟩)) (hb : act.eval (.tmp 8) = .pointer (some ⟨gb, 0, none⟩)) (hix : act.eval (.tmp 9) = .int .i64 kk) (ba : w.heap[ga]? = some (.cells rowa 51 (0, 0))) (bb : w.heap[gb]? = some (.cells rowb 51 (0, 0))) (ra : rowa[4]? = some (.slice (some ad) n ca)) (rb : rowb[4]? = some (.slice (some bd) n cb)) (hca : Kd.C k58 w (some ad) n l) (hcb : Kd.C k58 w (some bd) n l) (hk : kk < n)
    (hK : ∀ (u : Tmp → Value) (W : World), Below w.heap.size w W → Q .normal ((XReg.fills u [166, 167, 168, 169, 170, 171, 172, 173, 174, 175] act).put (some 176) (.bool false)) W) :
    (Code.region id ops true).wp Try.prog Q act w := by
  subst hops
  refine (wpIn_wide (n := 9)).1 (XReg.region_runD (by kernel_rfl) 10 (by rw [hsz0]; kernel_rfl) (w6sameInnerV ga gb ad bd n ca cb kk l)
    (fun w' => Below w.heap.size w w') ?_ (fun w1 w2 h1 h2 => below_step h1 h2) ((Below.refl _ w).drew) ?_ ?_)
  · intro i v w1 w2 hv hb
    match i, hv with
    | 0, hv | 1, hv | 2, hv | 3, hv | 4, hv | 5, hv | 6, hv | 7, hv | 8, hv | 9, hv => exact hv
    | _ + 10, _ => trivial
  · intro i o a' w' hi ho hB hdf hr hd
    have qa := blk_below ba hB
    have qb := blk_below bb hB
    have qca := Kd.C_below hca hB
    have qcb := Kd.C_below hcb hB
    have hcases : i = 0 ∨ i = 1 ∨ i = 2 ∨ i = 3 ∨ i = 4 ∨ i = 5 ∨ i = 6 ∨ i = 7 ∨ i = 8 ∨ i = 9 := by omega
    rcases hcases with rfl | rfl | rfl | rfl | rfl | rfl | rfl | rfl | rfl | rfl
    · obtain ⟨hop, hdst⟩ := XReg.op_is (x := .fieldAddr 51 (.tmp 7) 4) (d := some 166) ho (by kernel_rfl)
      have e0 := (hr 7 (by kernel_rfl)).trans ha
      have hu0 := Try.underlying51
      refine XReg.val_ (v := .pointer (some ⟨ga, 4, none⟩)) (w1 := w') (by rw [hop]; intro c h; cases h) (by simp [Oper.about, hop]) ?_ ⟨_, rfl, Below.refl _ _, rfl⟩
      unfold execOp
      rw [hop]
      clear hr hd hB
      clear qa qb qca qcb ba bb ra rb hca hcb
      generalize a'.eval = ρ at e0 ⊢
      go_simp
    · obtain ⟨hop, hdst⟩ := XReg.op_is (x := .load 49 (.tmp 166)) (d := some 167) ho (by kernel_rfl)
      have e0 : a'.eval (.tmp 166) = .pointer (some ⟨ga, 4, none⟩) := hd 0 166 (by kernel_rfl) (by omega)
      have hc : w'.cell? ⟨ga, 4, none⟩ = some (.slice (some ad) n ca) := (blk_cell qa 4).trans ra
      have hu0 := Try.underlying49
      refine XReg.val_ (v := .slice (some ad) n ca) (w1 := w') (by rw [hop]; intro c h; cases h) (by simp [Oper.about, hop]) ?_ ⟨_, rfl, Below.refl _ _, rfl⟩
      unfold execOp
      rw [hop]
      clear hr hd hB
      clear qa qb qca qcb ba bb ra rb hca hcb
      generalize a'.eval = ρ at e0 ⊢
      go_simp
    · obtain ⟨hop, hdst⟩ := XReg.op_is (x := .move (.tmp 9)) (d := some 168) ho (by kernel_rfl)
      have e0 := (hr 9 (by kernel_rfl)).trans hix
      refine XReg.val_ (v := .int .i64 kk) (w1 := w') (by rw [hop]; intro c h; cases h) (by simp [Oper.about, hop]) ?_ ⟨_, rfl, Below.refl _ _, rfl⟩
      unfold execOp
      rw [hop]
      clear hr hd hB
      clear qa qb qca qcb ba bb ra rb hca hcb
      generalize a'.eval = ρ at e0 ⊢
      go_simp
    · obtain ⟨hop, hdst⟩ := XReg.op_is (x := .indexAddr 49 (.tmp 167) (.tmp 168)) (d := some 169) ho (by kernel_rfl)
      have e0 : a'.eval (.tmp 167) = .slice (some ad) n ca := hd 1 167 (by kernel_rfl) (by omega)
      have e1 : a'.eval (.tmp 168) = .int .i64 kk := hd 2 168 (by kernel_rfl) (by omega)
      have hu0 := Try.underlying49
      have hu1 := Try.underlying58
      have hi_ : (Try.prog.info? 58).map (·.size) = some 6 := by kernel_rfl
      have hkz : (kk : Int) < (n : Int) := by omega
      refine XReg.val_ (v := .pointer (some (ad.add (kk * 6)))) (w1 := w') (by rw [hop]; intro c h; cases h) (by simp [Oper.about, hop]) ?_ ⟨_, rfl, Below.refl _ _, rfl⟩
      unfold execOp
      rw [hop]
      clear hr hd hB
      clear qa qb qca qcb ba bb ra rb hca hcb
      generalize a'.eval = ρ at e0 e1 ⊢
      go_simp
    · obtain ⟨hop, hdst⟩ := XReg.op_is (x := .load 58 (.tmp 169)) (d := some 170) ho (by kernel_rfl)
      have e0 : a'.eval (.tmp 169) = .pointer (some (ad.add (kk * 6))) := hd 3 169 (by kernel_rfl) (by omega)
      obtain ⟨ad_, e_, c0_, c1_, c2_, c3_, c4_, c5_⟩ := at_T58 qca (kk : Int) (by omega) (by omega)
      obtain rfl := Option.some.inj e_
      simp only [Int.toNat_natCast] at c0_ c1_ c2_ c3_ c4_ c5_
      have hu0 := Try.underlying58
      refine XReg.val_ (v := .agg #[.int .u64 (rd_T58 l (kk : Int)).f0.f0.f0, .int .u64 (rd_T58 l (kk : Int)).f0.f0.f1, .int .i64 (rd_T58 l (kk : Int)).f0.f1, .int .u32 (rd_T58 l (kk : Int)).f1, .int .u32 (rd_T58 l (kk : Int)).f2, .int .i64 (rd_T58 l (kk : Int)).f3]) (w1 := w') (by rw [hop]; intro c h; cases h) (by simp [Oper.about, hop]) ?_ ⟨_, rfl, Below.refl _ _, rfl⟩
      unfold execOp
      rw [hop]
      clear hr hd hB
      clear qa qb qca qcb ba bb ra rb hca hcb
      generalize rd_T58 l (kk : Int) = x at c0_ c1_ c2_ c3_ c4_ c5_ ⊢
      generalize a'.eval = ρ at e0 ⊢
      go_simp
    · obtain ⟨hop, hdst⟩ := XReg.op_is (x := .fieldAddr 51 (.tmp 8) 4) (d := some 171) ho (by kernel_rfl)
      have e0 := (hr 8 (by kernel_rfl)).trans hb
      have hu0 := Try.underlying51
      refine XReg.val_ (v := .pointer (some ⟨gb, 4, none⟩)) (w1 := w') (by rw [hop]; intro c h; cases h) (by simp [Oper.about, hop]) ?_ ⟨_, rfl, Below.refl _ _, rfl⟩
      unfold execOp
      rw [hop]
      clear hr hd hB
      clear qa qb qca qcb ba bb ra rb hca hcb
      generalize a'.eval = ρ at e0 ⊢
      go_simp
    · obtain ⟨hop, hdst⟩ := XReg.op_is (x := .load 49 (.tmp 171)) (d := some 172) ho (by kernel_rfl)
      have e0 : a'.eval (.tmp 171) = .pointer (some ⟨gb, 4, none⟩) := hd 5 171 (by kernel_rfl) (by omega)
      have hc : w'.cell? ⟨gb, 4, none⟩ = some (.slice (some bd) n cb) := (blk_cell qb 4).trans rb
      have hu0 := Try.underlying49
      refine XReg.val_ (v := .slice (some bd) n cb) (w1 := w') (by rw [hop]; intro c h; cases h) (by simp [Oper.about, hop]) ?_ ⟨_, rfl, Below.refl _ _, rfl⟩
      unfold execOp
      rw [hop]
      clear hr hd hB
      clear qa qb qca qcb ba bb ra rb hca hcb
      generalize a'.eval = ρ at e0 ⊢
      go_simp
    · obtain ⟨hop, hdst⟩ := XReg.op_is (x := .move (.tmp 9)) (d := some 173) ho (by kernel_rfl)
      have e0 := (hr 9 (by kernel_rfl)).trans hix
      refine XReg.val_ (v := .int .i64 kk) (w1 := w') (by rw [hop]; intro c h; cases h) (by simp [Oper.about, hop]) ?_ ⟨_, rfl, Below.refl _ _, rfl⟩
      unfold execOp
      rw [hop]
      clear hr hd hB
      clear qa qb qca qcb ba bb ra rb hca hcb
      generalize a'.eval = ρ at e0 ⊢
      go_simp
    · obtain ⟨hop, hdst⟩ := XReg.op_is (x := .indexAddr 49 (.tmp 172) (.tmp 173)) (d := some 174) ho (by kernel_rfl)
      have e0 : a'.eval (.tmp 172) = .slice (some bd) n cb := hd 6 172 (by kernel_rfl) (by omega)
      have e1 : a'.eval (.tmp 173) = .int .i64 kk := hd 7 173 (by kernel_rfl) (by omega)
      have hu0 := Try.underlying49
      have hu1 := Try.underlying58
      have hi_ : (Try.prog.info? 58).map (·.size) = some 6 := by kernel_rfl
      have hkz : (kk : Int) < (n : Int) := by omega
      refine XReg.val_ (v := .pointer (some (bd.add (kk * 6)))) (w1 := w') (by rw [hop]; intro c h; cases h) (by simp [Oper.about, hop]) ?_ ⟨_, rfl, Below.refl _ _, rfl⟩
      unfold execOp
      rw [hop]
      clear hr hd hB
      clear qa qb qca qcb ba bb ra rb hca hcb
      generalize a'.eval = ρ at e0 e1 ⊢
      go_simp
    · obtain ⟨hop, hdst⟩ := XReg.op_is (x := .load 58 (.tmp 174)) (d := some 175) ho (by kernel_rfl)
      have e0 : a'.eval (.tmp 174) = .pointer (some (bd.add (kk * 6))) := hd 8 174 (by kernel_rfl) (by omega)
      obtain ⟨ad_, e_, c0_, c1_, c2_, c3_, c4_, c5_⟩ := at_T58 qcb (kk : Int) (by omega) (by omega)
      obtain rfl := Option.some.inj e_
      simp only [Int.toNat_natCast] at c0_ c1_ c2_ c3_ c4_ c5_
      have hu0 := Try.underlying58
      refine XReg.val_ (v := .agg #[.int .u64 (rd_T58 l (kk : Int)).f0.f0.f0, .int .u64 (rd_T58 l (kk : Int)).f0.f0.f1, .int .i64 (rd_T58 l (kk : Int)).f0.f1, .int .u32 (rd_T58 l (kk : Int)).f1, .int .u32 (rd_T58 l (kk : Int)).f2, .int .i64 (rd_T58 l (kk : Int)).f3]) (w1 := w') (by rw [hop]; intro c h; cases h) (by simp [Oper.about, hop]) ?_ ⟨_, rfl, Below.refl _ _, rfl⟩
      unfold execOp
      rw [hop]
      clear hr hd hB
      clear qa qb qca qcb ba bb ra rb hca hcb
      generalize rd_T58 l (kk : Int) = x at c0_ c1_ c2_ c3_ c4_ c5_ ⊢
      generalize a'.eval = ρ at e0 ⊢
      go_simp
  · intro o a' w' ho hB hdf hsz' hr hd
    have qa := blk_below ba hB
    have qb := blk_below bb hB
    have qca := Kd.C_below hca hB
    have qcb := Kd.C_below hcb hB
    have hfill := XReg.fill_eq [166, 167, 168, 169, 170, 171, 172, 173, 174, 175] hsz' hdf (XReg.rest_of (ops := opsOf Try.f10 18) (m := 10) (by kernel_rfl) hr)
    obtain ⟨hop, hdst⟩ := XReg.op_is (x := .binOp .neq 58 (.tmp 170) (.tmp 175) 58) (d := some 176) ho (by kernel_rfl)
    have e0 : a'.eval (.tmp 170) = .agg #[.int .u64 (rd_T58 l (kk : Int)).f0.f0.f0, .int .u64 (rd_T58 l (kk : Int)).f0.f0.f1, .int .i64 (rd_T58 l (kk : Int)).f0.f1, .int .u32 (rd_T58 l (kk : Int)).f1, .int .u32 (rd_T58 l (kk : Int)).f2, .int .i64 (rd_T58 l (kk : Int)).f3] := hd 4 170 (by kernel_rfl) (by omega)
    have e1 : a'.eval (.tmp 175) = .agg #[.int .u64 (rd_T58 l (kk : Int)).f0.f0.f0, .int .u64 (rd_T58 l (kk : Int)).f0.f0.f1, .int .i64 (rd_T58 l (kk : Int)).f0.f1, .int .u32 (rd_T58 l (kk : Int)).f1, .int .u32 (rd_T58 l (kk : Int)).f2, .int .i64 (rd_T58 l (kk : Int)).f3] := hd 9 175 (by kernel_rfl) (by omega)
    have hu0 := Try.underlying58
    refine XReg.val_ (v := .bool false) (w1 := w') (by rw [hop]; intro c h; cases h) (by simp [Oper.about, hop]) ?_ (by rw [hdst, hfill]; exact hK _ w' hB)
    unfold execOp
    rw [hop]
    clear hr hd hB hfill hK qa qb qca qcb ba bb ra rb hca hcb
    generalize rd_T58 l (kk : Int) = x at e0 e1
    generalize a'.eval = ρ at e0 e1 ⊢
    go_simp

set_option maxHeartbeats 8000000 in
set_option maxRecDepth 100000 in
theorem tenancylaw16_same.calls (m : Ms) (Ai Ao Bi Bo : Option Addr) (ci co di do_ : Nat) (w : World) (hai : Kd.C k51 w Ai m.ias.length m.ias) (hao : Kd.C k42 w Ao m.opts.length m.opts) (hbi : Kd.C k51 w Bi m.ias.length m.ias) (hbo : Kd.C k42 w Bo m.opts.length m.opts) :
    Calls Try.prog 10 #[.agg (m.row (.slice Ai m.ias.length ci) (.slice Ao m.opts.length co)), .agg (m.row (.slice Bi m.ias.length di) (.slice Bo m.opts.length do_))] w fun e w' => e = .returned (.bool true) ∧ Below w.heap.size w w' := by
  have hu26 := Try.underlying26
  have hu42 := Try.underlying42
  have hu51 := Try.underlying51
  have hu58 := Try.underlying58
  have hi51 : (Try.prog.info? 51).map (·.size) = some 6 := by kernel_rfl
  have hi42 : (Try.prog.info? 42).map (·.size) = some 2 := by kernel_rfl
  have hi58 : (Try.prog.info? 58).map (·.size) = some 6 := by kernel_rfl
  have HAI := Aside0.mk hai
  have HAO := Aside0.mk hao
  have HBI := Aside0.mk hbi
  have HBO := Aside0.mk hbo
  have NI := Aside0.mk (Kd.C_max hai)
  have NO := Aside0.mk (Kd.C_max hao)
  have ba := Aside0.mk (blk_alloc (blk_new w (.cells (m.row (.slice Ai m.ias.length ci) (.slice Ao m.opts.length co)) 26)) (.cells (m.row (.slice Bi m.ias.length di) (.slice Bo m.opts.length do_)) 26))
  have bb := Aside0.mk (blk_new (w.alloc (.cells (m.row (.slice Ai m.ias.length ci) (.slice Ao m.opts.length co)) 26)) (.cells (m.row (.slice Bi m.ias.length di) (.slice Bo m.opts.length do_)) 26))
  have HB := Aside0.mk (below_alloc (below_alloc (Below.refl _ w) (.cells (m.row (.slice Ai m.ias.length ci) (.slice Ao m.opts.length co)) 26)) (.cells (m.row (.slice Bi m.ias.length di) (.slice Bo m.opts.length do_)) 26))
  clear hai hao hbi hbo
  unfold Ms.row at ba bb HB ⊢
  go_enter Try.func10, Try.ntmps10
  go_upto_region 1 with fail
  (try simp only [World.size_alloc] at bb)
  generalize World.alloc (World.alloc w _) _ = W0 at ba bb HB ⊢
  obtain ⟨ga, hga⟩ : ∃ ga, ga = w.heap.size := ⟨_, rfl⟩
  obtain ⟨gb, hgb⟩ : ∃ gb, gb = w.heap.size + 1 := ⟨_, rfl⟩
  rw [← hgb] at bb
  rw [← hga] at ba
  rw [← hgb]
  rw [show (Value.pointer (some ⟨w.heap.size, 0, none⟩)) = .pointer (some ⟨ga, 0, none⟩) by rw [hga]]
  clear hga hgb
  have ha0 : World.cell? W0 ⟨ga, 0, none⟩ = some (.int .i64 m.ty) := (blk_cell ba.out 0).trans rfl
  have hb0 : World.cell? W0 ⟨gb, 0, none⟩ = some (.int .i64 m.ty) := (blk_cell bb.out 0).trans rfl
  have ha1 : World.cell? W0 ⟨ga, 1, none⟩ = some (.int .u32 m.xid) := (blk_cell ba.out 1).trans rfl
  have hb1 : World.cell? W0 ⟨gb, 1, none⟩ = some (.int .u32 m.xid) := (blk_cell bb.out 1).trans rfl
  have ha2 : World.cell? W0 ⟨ga, 2, none⟩ = some (.string m.cl) := (blk_cell ba.out 2).trans rfl
  have hb2 : World.cell? W0 ⟨gb, 2, none⟩ = some (.string m.cl) := (blk_cell bb.out 2).trans rfl
  have ha3 : World.cell? W0 ⟨ga, 3, none⟩ = some (.string m.sv) := (blk_cell ba.out 3).trans rfl
  have hb3 : World.cell? W0 ⟨gb, 3, none⟩ = some (.string m.sv) := (blk_cell bb.out 3).trans rfl
  have ha4 : World.cell? W0 ⟨ga, 4, none⟩ = some (.slice Ai m.ias.length ci) := (blk_cell ba.out 4).trans rfl
  have hb4 : World.cell? W0 ⟨gb, 4, none⟩ = some (.slice Bi m.ias.length di) := (blk_cell bb.out 4).trans rfl
  have ha5 : World.cell? W0 ⟨ga, 5, none⟩ = some (.int .i64 m.code) := (blk_cell ba.out 5).trans rfl
  have hb5 : World.cell? W0 ⟨gb, 5, none⟩ = some (.int .i64 m.code) := (blk_cell bb.out 5).trans rfl
  have ha6 : World.cell? W0 ⟨ga, 6, none⟩ = some (.bool m.rap) := (blk_cell ba.out 6).trans rfl
  have hb6 : World.cell? W0 ⟨gb, 6, none⟩ = some (.bool m.rap) := (blk_cell bb.out 6).trans rfl
  have ha7 : World.cell? W0 ⟨ga, 7, none⟩ = some (.bool m.acc) := (blk_cell ba.out 7).trans rfl
  have hb7 : World.cell? W0 ⟨gb, 7, none⟩ = some (.bool m.acc) := (blk_cell bb.out 7).trans rfl
  have ha8 : World.cell? W0 ⟨ga, 8, none⟩ = some (.int .i64 m.again) := (blk_cell ba.out 8).trans rfl
  have hb8 : World.cell? W0 ⟨gb, 8, none⟩ = some (.int .i64 m.again) := (blk_cell bb.out 8).trans rfl
  have ha9 : World.cell? W0 ⟨ga, 9, none⟩ = some (.slice Ao m.opts.length co) := (blk_cell ba.out 9).trans rfl
  have hb9 : World.cell? W0 ⟨gb, 9, none⟩ = some (.slice Bo m.opts.length do_) := (blk_cell bb.out 9).trans rfl
  go_upto_region 3 with fail
  clear ha0 hb0 ha1 hb1 ha2 hb2 ha3 hb3 ha4 hb4 ha5 hb5 ha6 hb6 ha7 hb7 ha8 hb8 ha9 hb9
  have BA := ba
  have BB := bb
  clear ba bb
  go_upto_region 4 with fail
  go_loopg [5] m.opts.length (fun gg s5 wr => ∃ kk : Nat, Aside0 (kk ≤ m.opts.length ∧ m.opts.length - kk ≤ gg) ∧ s5 = .int .i64 kk ∧ Aside0 (wr.heap[ga]? = some (.cells #[.int .i64 m.ty, .int .u32 m.xid, .string m.cl, .string m.sv, .slice Ai m.ias.length ci, .int .i64 m.code, .bool m.rap, .bool m.acc, .int .i64 m.again, .slice Ao m.opts.length co] 26 (0, 0))) ∧ Aside0 (wr.heap[gb]? = some (.cells #[.int .i64 m.ty, .int .u32 m.xid, .string m.cl, .string m.sv, .slice Bi m.ias.length di, .int .i64 m.code, .bool m.rap, .bool m.acc, .int .i64 m.again, .slice Bo m.opts.length do_] 26 (0, 0))) ∧ Aside0 (Below w.heap.size w wr))
  case atStart => exact ⟨0, ⟨by omega⟩, rfl, BA, BB, HB⟩
  case round =>
    clear BA BB HB
    obtain ⟨kk, HK, rfl, BA, BB, HB⟩ := hrel
    have ha9 : World.cell? wr ⟨ga, 9, none⟩ = some (.slice Ao m.opts.length co) := (blk_cell BA.out 9).trans rfl
    have hb9 : World.cell? wr ⟨gb, 9, none⟩ = some (.slice Bo m.opts.length do_) := (blk_cell BB.out 9).trans rfl
    by_cases hlt : kk < m.opts.length
    · have hltz : (kk : Int) < (m.opts.length : Int) := by omega
      have HLT := Aside0.mk hlt
      obtain ⟨ad, hA, hx0, hx1⟩ := at_T42 (Kd.C_below HAO.out HB.out) (kk : Int) (by omega) (by omega)
      obtain ⟨bd, hBd, hy0, hy1⟩ := at_T42 (Kd.C_below HBO.out HB.out) (kk : Int) (by omega) (by omega)
      simp only [Int.toNat_natCast] at hx0 hx1 hy0 hy1
      generalize rd_T42 m.opts (kk : Int) = x at hx0 hx1 hy0 hy1
      subst hA hBd
      clear hx0 hx1 hy0 hy1
      go_upto_region 6 with fail
      clear ha9 hb9
      refine w6sameOpt _ rfl _ _ _ _ (by kernel_rfl) ga gb ad bd m.opts.length co do_ kk m.opts _ _ rfl rfl rfl BA.out BB.out rfl rfl (Kd.C_below HAO.out HB.out) (Kd.C_below HBO.out HB.out) hlt ?_
      intro u W hb
      clear hlt hltz
      simp only [XReg.fills, List.foldl_cons, List.foldl_nil, Act.put, List.setIfInBounds_toArray, List.set_cons_zero, List.set_cons_succ]
      have BA2 := Aside0.mk (blk_below BA.out hb)
      have BB2 := Aside0.mk (blk_below BB.out hb)
      have HB2 := Aside0.mk (below_step HB.out hb)
      clear BA BB HB hb
      go_wp2
      go_roundg (m.opts.length - (kk + 1))
      case measure => have := HK.out; have := HLT.out; omega
      case rel => exact ⟨kk + 1, ⟨by have := HLT.out; omega⟩, by first | rfl | (rw [Go.IntWalk.wrap64_in _ (by have := HLT.out; have := NO.out; omega)]; rfl), ⟨by first | exact BA2.out | exact blk_drew BA2.out | exact blk_drewN BA2.out _⟩, ⟨by first | exact BB2.out | exact blk_drew BB2.out | exact blk_drewN BB2.out _⟩, ⟨by first | exact HB2.out | exact below_drew1 HB2.out | exact pw_below_drewN HB2.out _⟩⟩
    · obtain rfl : kk = m.opts.length := by have := HK.out; omega
      have hltz : ¬ (m.opts.length : Int) < (m.opts.length : Int) := by omega
      clear hlt HK
      go_upto_region 8 with fail
      clear ha9 hb9 hltz
      go_wp2
      have BA1 := BA
      have BB1 := BB
      have HB1 := HB
      clear BA BB HB
      go_loopg [6, 7, 8, 9] m.ias.length (fun gg s6 s7 s8 s9 wr => ∃ kk : Nat, Aside0 (kk ≤ m.ias.length ∧ m.ias.length - kk ≤ gg) ∧ s6 = .int .i64 kk ∧ Aside0 (wr.heap[ga]? = some (.cells #[.int .i64 m.ty, .int .u32 m.xid, .string m.cl, .string m.sv, .slice Ai m.ias.length ci, .int .i64 m.code, .bool m.rap, .bool m.acc, .int .i64 m.again, .slice Ao m.opts.length co] 26 (0, 0))) ∧ Aside0 (wr.heap[gb]? = some (.cells #[.int .i64 m.ty, .int .u32 m.xid, .string m.cl, .string m.sv, .slice Bi m.ias.length di, .int .i64 m.code, .bool m.rap, .bool m.acc, .int .i64 m.again, .slice Bo m.opts.length do_] 26 (0, 0))) ∧ Aside0 (Below w.heap.size w wr))
      case atStart => exact ⟨0, ⟨by omega⟩, rfl, BA1, BB1, HB1⟩
      case round =>
        clear BA1 BB1 HB1
        obtain ⟨kk, HK, rfl, BA, BB, HB⟩ := hrel
        have ha4 : World.cell? wr ⟨ga, 4, none⟩ = some (.slice Ai m.ias.length ci) := (blk_cell BA.out 4).trans rfl
        have hb4 : World.cell? wr ⟨gb, 4, none⟩ = some (.slice Bi m.ias.length di) := (blk_cell BB.out 4).trans rfl
        by_cases hlt : kk < m.ias.length
        · have hltz : (kk : Int) < (m.ias.length : Int) := by omega
          have HLT := Aside0.mk hlt
          obtain ⟨x, hx⟩ : ∃ x, x = rd_T51 m.ias (kk : Int) := ⟨_, rfl⟩
          obtain ⟨ad, A4, c4, hA, hx0, hx1, hx2, hx3, hx4, hx5, hxl, hxC⟩ := at_T51 HAI.out (kk : Int) (by omega) (by omega)
          obtain ⟨bd, B4, d4, hBd, hy0, hy1, hy2, hy3, hy4, hy5, hyl, hyC⟩ := at_T51 HBI.out (kk : Int) (by omega) (by omega)
          simp only [Int.toNat_natCast, ← hx] at hx0 hx1 hx2 hx3 hx4 hx5 hxl hxC hy0 hy1 hy2 hy3 hy4 hy5 hyl hyC
          subst hA hBd
          have HXC := Aside0.mk hxC
          have HYC := Aside0.mk hyC
          have NX := Aside0.mk (Kd.C_max hxC)
          clear hxC hyC hlt hx hxl hyl
          have HY := Aside0.mk (And.intro hy0 (And.intro hy1 (And.intro hy2 (And.intro hy3 (And.intro hy4 hy5)))))
          clear hy0 hy1 hy2 hy3 hy4 hy5
          replace hx0 := (HB.out.cell (World.block_lt_of_cell? w _ hx0)).trans hx0
          replace hx1 := (HB.out.cell (World.block_lt_of_cell? w _ hx1)).trans hx1
          replace hx2 := (HB.out.cell (World.block_lt_of_cell? w _ hx2)).trans hx2
          replace hx3 := (HB.out.cell (World.block_lt_of_cell? w _ hx3)).trans hx3
          replace hx4 := (HB.out.cell (World.block_lt_of_cell? w _ hx4)).trans hx4
          replace hx5 := (HB.out.cell (World.block_lt_of_cell? w _ hx5)).trans hx5
          go_upto_region 12 with fail
          clear hx0 hx1 hx2 hx3 hx4 hx5 ha4 hb4
          have BX1 := Aside0.mk (blk_new wr (.cells #[.int .i64 x.f0, .int .u32 x.f1, .int .u32 x.f2, .int .u32 x.f3, .slice A4 x.f4.length c4, .int .i64 x.f5] 51))
          have BA1 := Aside0.mk (blk_alloc BA.out (.cells #[.int .i64 x.f0, .int .u32 x.f1, .int .u32 x.f2, .int .u32 x.f3, .slice A4 x.f4.length c4, .int .i64 x.f5] 51))
          have BB1 := Aside0.mk (blk_alloc BB.out (.cells #[.int .i64 x.f0, .int .u32 x.f1, .int .u32 x.f2, .int .u32 x.f3, .slice A4 x.f4.length c4, .int .i64 x.f5] 51))
          have HB1 := Aside0.mk (below_alloc HB.out (.cells #[.int .i64 x.f0, .int .u32 x.f1, .int .u32 x.f2, .int .u32 x.f3, .slice A4 x.f4.length c4, .int .i64 x.f5] 51))
          clear BA BB HB
          generalize wr.alloc (.cells #[.int .i64 x.f0, .int .u32 x.f1, .int .u32 x.f2, .int .u32 x.f3, .slice A4 x.f4.length c4, .int .i64 x.f5] 51) = w1 at BX1 BA1 BB1 HB1 ⊢
          generalize wr.heap.size = gx at BX1 ⊢
          obtain ⟨hy0, hy1, hy2, hy3, hy4, hy5⟩ := HY.out
          clear HY
          replace hy0 := (HB1.out.cell (World.block_lt_of_cell? w _ hy0)).trans hy0
          replace hy1 := (HB1.out.cell (World.block_lt_of_cell? w _ hy1)).trans hy1
          replace hy2 := (HB1.out.cell (World.block_lt_of_cell? w _ hy2)).trans hy2
          replace hy3 := (HB1.out.cell (World.block_lt_of_cell? w _ hy3)).trans hy3
          replace hy4 := (HB1.out.cell (World.block_lt_of_cell? w _ hy4)).trans hy4
          replace hy5 := (HB1.out.cell (World.block_lt_of_cell? w _ hy5)).trans hy5
          have hb4 : World.cell? w1 ⟨gb, 4, none⟩ = some (.slice (some bd) m.ias.length di) := (blk_cell BB1.out 4).trans rfl
          go_upto_region 13 with fail
          clear hy0 hy1 hy2 hy3 hy4 hy5 hb4
          have BY := Aside0.mk (blk_new w1 (.cells #[.int .i64 x.f0, .int .u32 x.f1, .int .u32 x.f2, .int .u32 x.f3, .slice B4 x.f4.length d4, .int .i64 x.f5] 51))
          have BX := Aside0.mk (blk_alloc BX1.out (.cells #[.int .i64 x.f0, .int .u32 x.f1, .int .u32 x.f2, .int .u32 x.f3, .slice B4 x.f4.length d4, .int .i64 x.f5] 51))
          have BA := Aside0.mk (blk_alloc BA1.out (.cells #[.int .i64 x.f0, .int .u32 x.f1, .int .u32 x.f2, .int .u32 x.f3, .slice B4 x.f4.length d4, .int .i64 x.f5] 51))
          have BB := Aside0.mk (blk_alloc BB1.out (.cells #[.int .i64 x.f0, .int .u32 x.f1, .int .u32 x.f2, .int .u32 x.f3, .slice B4 x.f4.length d4, .int .i64 x.f5] 51))
          have HB := Aside0.mk (below_alloc HB1.out (.cells #[.int .i64 x.f0, .int .u32 x.f1, .int .u32 x.f2, .int .u32 x.f3, .slice B4 x.f4.length d4, .int .i64 x.f5] 51))
          clear BX1 BA1 BB1 HB1
          generalize w1.alloc (.cells #[.int .i64 x.f0, .int .u32 x.f1, .int .u32 x.f2, .int .u32 x.f3, .slice B4 x.f4.length d4, .int .i64 x.f5] 51) = w2 at BX BY BA BB HB ⊢
          generalize w1.heap.size = gy at BY ⊢
          have hx0 : World.cell? w2 ⟨gx, 0, none⟩ = some (.int .i64 x.f0) := (blk_cell BX.out 0).trans rfl
          have hy0 : World.cell? w2 ⟨gy, 0, none⟩ = some (.int .i64 x.f0) := (blk_cell BY.out 0).trans rfl
          have hx1 : World.cell? w2 ⟨gx, 1, none⟩ = some (.int .u32 x.f1) := (blk_cell BX.out 1).trans rfl
          have hy1 : World.cell? w2 ⟨gy, 1, none⟩ = some (.int .u32 x.f1) := (blk_cell BY.out 1).trans rfl
          have hx2 : World.cell? w2 ⟨gx, 2, none⟩ = some (.int .u32 x.f2) := (blk_cell BX.out 2).trans rfl
          have hy2 : World.cell? w2 ⟨gy, 2, none⟩ = some (.int .u32 x.f2) := (blk_cell BY.out 2).trans rfl
          have hx3 : World.cell? w2 ⟨gx, 3, none⟩ = some (.int .u32 x.f3) := (blk_cell BX.out 3).trans rfl
          have hy3 : World.cell? w2 ⟨gy, 3, none⟩ = some (.int .u32 x.f3) := (blk_cell BY.out 3).trans rfl
          have hx4 : World.cell? w2 ⟨gx, 4, none⟩ = some (.slice A4 x.f4.length c4) := (blk_cell BX.out 4).trans rfl
          have hy4 : World.cell? w2 ⟨gy, 4, none⟩ = some (.slice B4 x.f4.length d4) := (blk_cell BY.out 4).trans rfl
          have hx5 : World.cell? w2 ⟨gx, 5, none⟩ = some (.int .i64 x.f5) := (blk_cell BX.out 5).trans rfl
          have hy5 : World.cell? w2 ⟨gy, 5, none⟩ = some (.int .i64 x.f5) := (blk_cell BY.out 5).trans rfl
          go_upto_region 15 with fail
          clear hx0 hy0 hx1 hy1 hx2 hy2 hx3 hy3 hx4 hy4 hx5 hy5 hltz
          go_wp2
          go_loopg [9] x.f4.length (fun gg s9 w3 => ∃ jj : Nat, Aside0 (jj ≤ x.f4.length ∧ x.f4.length - jj ≤ gg) ∧ s9 = .int .i64 jj ∧ Aside0 (w3.heap[ga]? = some (.cells #[.int .i64 m.ty, .int .u32 m.xid, .string m.cl, .string m.sv, .slice (some ad) m.ias.length ci, .int .i64 m.code, .bool m.rap, .bool m.acc, .int .i64 m.again, .slice Ao m.opts.length co] 26 (0, 0))) ∧ Aside0 (w3.heap[gb]? = some (.cells #[.int .i64 m.ty, .int .u32 m.xid, .string m.cl, .string m.sv, .slice (some bd) m.ias.length di, .int .i64 m.code, .bool m.rap, .bool m.acc, .int .i64 m.again, .slice Bo m.opts.length do_] 26 (0, 0))) ∧ Aside0 (w3.heap[gx]? = some (.cells #[.int .i64 x.f0, .int .u32 x.f1, .int .u32 x.f2, .int .u32 x.f3, .slice A4 x.f4.length c4, .int .i64 x.f5] 51 (0, 0))) ∧ Aside0 (w3.heap[gy]? = some (.cells #[.int .i64 x.f0, .int .u32 x.f1, .int .u32 x.f2, .int .u32 x.f3, .slice B4 x.f4.length d4, .int .i64 x.f5] 51 (0, 0))) ∧ Aside0 (Below w.heap.size w w3))
          case atStart => exact ⟨0, ⟨by omega⟩, rfl, BA, BB, BX, BY, HB⟩
          case round =>
            clear BA BB BX BY HB
            obtain ⟨jj, HJ, rfl, BA, BB, BX, BY, HB⟩ := hrel
            have hx4 : World.cell? wr ⟨gx, 4, none⟩ = some (.slice A4 x.f4.length c4) := (blk_cell BX.out 4).trans rfl
            by_cases hl2 : jj < x.f4.length
            · have hl2z : (jj : Int) < (x.f4.length : Int) := by omega
              have HL2 := Aside0.mk hl2
              obtain ⟨ae, hA, _⟩ := at_T58 HXC.out (jj : Int) (by omega) (by omega)
              obtain ⟨be, hBe, _⟩ := at_T58 HYC.out (jj : Int) (by omega) (by omega)
              subst hA hBe
              go_upto_region 18 with fail
              clear hx4
              refine w6sameInner _ rfl _ _ _ _ (by kernel_rfl) gx gy ae be x.f4.length c4 d4 jj x.f4 _ _ rfl rfl rfl BX.out BY.out rfl rfl (Kd.C_below HXC.out HB.out) (Kd.C_below HYC.out HB.out) hl2 ?_
              intro u W hb
              clear hl2 hl2z
              simp only [XReg.fills, List.foldl_cons, List.foldl_nil, Act.put, List.setIfInBounds_toArray, List.set_cons_zero, List.set_cons_succ]
              have BA2 := Aside0.mk (blk_below BA.out hb)
              have BB2 := Aside0.mk (blk_below BB.out hb)
              have BX2 := Aside0.mk (blk_below BX.out hb)
              have BY2 := Aside0.mk (blk_below BY.out hb)
              have HB2 := Aside0.mk (below_step HB.out hb)
              clear BA BB BX BY HB hb
              go_wp2
              go_roundg (x.f4.length - (jj + 1))
              case measure => have := HJ.out; have := HL2.out; omega
              case rel => exact ⟨jj + 1, ⟨by have := HL2.out; omega⟩, by first | rfl | (rw [Go.IntWalk.wrap64_in _ (by have := HL2.out; have := NX.out; omega)]; rfl), ⟨by first | exact BA2.out | exact blk_drew BA2.out | exact blk_drewN BA2.out _⟩, ⟨by first | exact BB2.out | exact blk_drew BB2.out | exact blk_drewN BB2.out _⟩, ⟨by first | exact BX2.out | exact blk_drew BX2.out | exact blk_drewN BX2.out _⟩, ⟨by first | exact BY2.out | exact blk_drew BY2.out | exact blk_drewN BY2.out _⟩, ⟨by first | exact HB2.out | exact below_drew1 HB2.out | exact pw_below_drewN HB2.out _⟩⟩
            · obtain rfl : jj = x.f4.length := by have := HJ.out; omega
              have hl2z : ¬ (x.f4.length : Int) < (x.f4.length : Int) := by omega
              clear hl2 HJ
              go_wp2
              go_roundg (m.ias.length - (kk + 1))
              case measure => have := HK.out; have := HLT.out; omega
              case rel => exact ⟨kk + 1, ⟨by have := HLT.out; omega⟩, by first | rfl | (rw [Go.IntWalk.wrap64_in _ (by have := HLT.out; have := NI.out; omega)]; rfl), ⟨by first | exact BA.out | exact blk_drew BA.out | exact blk_drewN BA.out _⟩, ⟨by first | exact BB.out | exact blk_drew BB.out | exact blk_drewN BB.out _⟩, ⟨by first | exact HB.out | exact below_drew1 HB.out | exact pw_below_drewN HB.out _⟩⟩
        · obtain rfl : kk = m.ias.length := by have := HK.out; omega
          have hltz : ¬ (m.ias.length : Int) < (m.ias.length : Int) := by omega
          clear hlt HK
          go_wp2
          go_ret
          exact ⟨rfl, by first | exact HB.out | exact below_drew1 HB.out | exact pw_below_drewN HB.out _⟩

end Go.Proofs.Ythadapbekmmgpaa.X
