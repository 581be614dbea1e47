/- no condition. -/
import Derived.Test.YthadapbekmmgpaaDX0
import Derived.Test.YthadapbekmmgpaaDX9
import Derived.Test.YthadapbekmmgpaaDXCv
import Derived.Test.YthadapbekmmgpaaDXE3
import Derived.Test.YthadapbekmmgpaaDXIn
import Derived.Test.YthadapbekmmgpaaDXOrow
import Derived.Test.YthadapbekmmgpaaDXReg
import Derived.Test.YthadapbekmmgpaaDXRegF
import Derived.Test.YthadapbekmmgpaaDXRegP
import Derived.Outline
import Derived.Lib.Hide
import Derived.Laws.IdiomCopy
import Derived.Lib.SliceRun
import Derived.WalkSpells
namespace Go.Proofs.Ythadapbekmmgpaa.X
open Go.RowKit Go.Proofs.YthadapbekmmgpaaW.PrintWords Go.Proofs.YthadapbekmmgpaaW.PrintLast Go.Proofs.YthadapbekmmgpaaW.PrintMore
set_option linter.unusedVariables false
set_option linter.unusedSimpArgs false
def mZ : Ms := ⟨0, 0, ⟨#[]⟩, ⟨#[]⟩, [], 0, false, false, 0, []⟩
def w6run : List S42 → List Int → Ms → Option (Ms × Int)
  | [], _, m => some (m, 0)
  | o :: l, seen, m => if 0 ≤ o.f0 ∧ o.f0 < 65536 ∧ o.f1.size ≤ 9223372036854775807 then (wire6_read.f m o.f0 o.f1 (seen.contains o.f0)).bind fun p => if p.2 = 0 then w6run l (o.f0 :: seen) p.1 else some (mZ, p.2) else none
def w6new (h : Int) : Ms := ⟨h / 16777216, Go.bits .and .u32 h 16777215, ⟨#[]⟩, ⟨#[]⟩, [], -1, false, false, 0, []⟩
def wire6_Decode.f (k : Nat) (s : ByteArray) : Option (Ms × Int) :=
  if (s.size : Int) > 65507 then some (mZ, 6)
  else (octet_Get32.f k s 0).bind fun hd => if hd.2 = false then some (mZ, 3)
  else if 4 ≤ s.size ∧ 0 ≤ hd.1 ∧ hd.1 < 4294967296 then (if hd.1 / 16777216 < 1 ∨ hd.1 / 16777216 > 11 then some (mZ, 141)
  else (opt6_Parse.f k (s.extract 4 s.size)).bind fun l => if l.2 = 0 then (if l.1.length < 1000000 then w6run l.1 [] (w6new hd.1) else none) else some (mZ, l.2)) else none
theorem own_heap {H : Type} {w w' : World} {P : Program} {k : TypeId} {R : Value → Option (DataW H × List MemPlace)} {b n : Nat} {D : DataW H} (h : w.ownsMap P k R b n D) (he : w'.heap[b]? = w.heap[b]?) : w'.ownsMap P k R b n D := by
  obtain ⟨es, clock, h1, h2⟩ := h
  exact ⟨es, clock, he.trans h1, h2⟩
theorem M6.mapped {w0 W W' : World} {B gm gB : Nat} {S : Nat → Prop} {m : Ms} (h : M6 w0 B gm S m W) (hg : W.grownBy W' (some gB)) (h1 : gB ≠ gm) (h2 : gB < B) (h3 : w0.heap.size ≤ gB) : M6 w0 B gm S m W' := by
  obtain ⟨⟨vi, vo, a1, a2, a3⟩, a4, a5⟩ := h
  have hne : ∀ k, k ≠ gB → some k ≠ some gB := fun k hk e => hk (Option.some.inj e)
  refine ⟨⟨vi, vo, blk_grown a1 hg (hne _ (Ne.symm h1)), Kd.R_mono (Kd.R_step (Kd.R_bound a2) (fun k hk hlt => hg.block k hlt (hne k (by have := hk.2.1; omega)))) (fun _ hk => hk.1), Kd.R_mono (Kd.R_step (Kd.R_bound a3) (fun k hk hlt => hg.block k hlt (hne k (by have := hk.2.1; omega)))) (fun _ hk => hk.1)⟩, ⟨hg.os.trans a4.os, hg.tape.trans a4.tape, hg.output.trans a4.output, Nat.le_trans a4.size hg.size, fun k hk => (hg.block k (Nat.lt_of_lt_of_le hk a4.size) (hne k (by omega))).trans (a4.block k hk)⟩, a5.1, a5.2.1, Nat.le_trans a5.2.2 hg.size⟩
/-- What the map holds: how often each code has come. -/
def Cnt (D : DataW Unit) (seen : List Int) : Prop := Go.Maps.IsMap D ∧ ∀ c : Int, 0 ≤ c ∧ c < 65536 → D.atKey (.int .u16 c) (.lit (.int .i64 0)) = .lit (.int .i64 (seen.count c : Nat))
theorem Cnt.nil : Cnt (.map []) [] := ⟨Go.Maps.isMap_empty, fun _ _ => rfl⟩
theorem Cnt.put {D : DataW Unit} {seen : List Int} (h : Cnt D seen) (c : Int) (hc : 0 ≤ c ∧ c < 65536) : Cnt (D.put (.int .u16 c) (.lit (.int .i64 ((seen.count c : Nat) + 1)))) (c :: seen) := by
  refine ⟨h.1.put _ _, fun x hx => ?_⟩
  by_cases e : x = c
  · subst e
    rw [Go.Maps.atKey_put_same h.1 (by trivial), List.count_cons_self]
    rfl
  · rw [Go.Maps.atKey_put_other (fun he => e (by injection he)), h.2 x hx, List.count_cons_of_ne (Ne.symm e)]
theorem wf_u16 {c : Int} (h : 0 ≤ c ∧ c < 65536) : (Lit.int .u16 c).wf = true := by
  have h1 : IntKind.u16.min = 0 := rfl
  have h2 : IntKind.u16.max = 65535 := rfl
  simp only [Lit.wf, h1, h2, Bool.and_eq_true, decide_eq_true_eq]
  omega
theorem blk_put_ne {w : World} {g g2 : Nat} {o : Obj} (h : w.heap[g]? = some o) (hne : g ≠ g2) (i : Nat) (v : Value) : (w.setCell ⟨g2, i, none⟩ v).heap[g]? = some o := (Below.heap_setCell w ⟨g2, i, none⟩ v g hne).trans h
theorem contains_count (l : List Int) (x : Int) : decide ((0 : Int) < ((l.count x : Nat) : Int)) = l.contains x := by
  by_cases h : x ∈ l
  · rw [List.contains_iff_mem.2 h]
    have := List.count_pos_iff.2 h
    exact decide_eq_true (by omega)
  · have h1 : l.contains x = false := by
      cases hc : l.contains x with
      | false => rfl
      | true => exact absurd (List.contains_iff_mem.1 hc) h
    rw [h1, List.count_eq_zero_of_not_mem h]
    rfl
theorem law40 : Go.Maps.Keyed Try.prog 40 := Go.Maps.int_keyed Try.underlying40
theorem zero3 (w : World) : (zeroValue 3).run Try.prog w = .ok (.int .i64 0) w := by kernel_rfl
theorem w6blank_calls (ty : Int) (w : World) : Calls Try.prog 11 #[.int .i64 ty] w fun e w' => e = .returned (.agg #[.int .i64 ty, .int .u32 0, .string (⟨#[]⟩ : ByteArray), .string (⟨#[]⟩ : ByteArray), .slice none 0 0, .int .i64 (-1), .bool false, .bool false, .int .i64 0, .slice none 0 0]) ∧ Below w.heap.size w w' := by
  have hu26 := Try.underlying26
  have hi26 : (Try.prog.info? 26).map (·.size) = some 10 := by kernel_rfl
  have BA := Aside0.mk (blk_new w (.cells #[.int .i64 0, .int .u32 0, .string (⟨#[]⟩ : ByteArray), .string (⟨#[]⟩ : ByteArray), .slice none 0 0, .int .i64 0, .bool false, .bool false, .int .i64 0, .slice none 0 0] 26))
  have HB := Aside0.mk (below_alloc (Below.refl _ w) (.cells #[.int .i64 0, .int .u32 0, .string (⟨#[]⟩ : ByteArray), .string (⟨#[]⟩ : ByteArray), .slice none 0 0, .int .i64 0, .bool false, .bool false, .int .i64 0, .slice none 0 0] 26))
  go_enter Try.func11, Try.ntmps11
  go_upto_region 1 with fail
  generalize w.alloc (.cells #[.int .i64 0, .int .u32 0, .string (⟨#[]⟩ : ByteArray), .string (⟨#[]⟩ : ByteArray), .slice none 0 0, .int .i64 0, .bool false, .bool false, .int .i64 0, .slice none 0 0] 26) = wa at BA HB ⊢
  go_wp2_with ((with_reducible refine gate_store (p := 2) rfl ?_); refine XBox.storeL_ rfl rfl 26 rfl w.heap.size rfl #[.int .i64 0, .int .u32 0, .string (⟨#[]⟩ : ByteArray), .string (⟨#[]⟩ : ByteArray), .slice none 0 0, .int .i64 0, .bool false, .bool false, .int .i64 0, .slice none 0 0] #[.int .i64 ty, .int .u32 0, .string (⟨#[]⟩ : ByteArray), .string (⟨#[]⟩ : ByteArray), .slice none 0 0, .int .i64 (-1), .bool false, .bool false, .int .i64 0, .slice none 0 0] rfl BA.out hi26 (Eq.refl 10) (by simp [Value.oneCell']) ?_; intro wz hw1 hw2 hw3; have BR := Aside0.mk hw1; have HR := Aside0.mk (HB.out.trans (hw2 _ (Nat.le_refl _))); clear hw1 hw2 hw3)
  refine bodyPost_ret (results_cell_row rfl _ _ w.heap.size 26 #[.int .i64 ty, .int .u32 0, .string (⟨#[]⟩ : ByteArray), .string (⟨#[]⟩ : ByteArray), .slice none 0 0, .int .i64 (-1), .bool false, .bool false, .int .i64 0, .slice none 0 0] (0, 0) _ rfl BR.out hu26 rfl hi26) rfl ?_
  exact ⟨rfl, HR.out⟩
set_option maxHeartbeats 8000000 in
set_option maxRecDepth 100000 in
theorem wire6_Decode.calls (k : Nat) (s : ByteArray) (m : Ms) (r : Int) (w : World) (h : wire6_Decode.f k s = some (m, r)) :
    Calls Try.prog 17 #[.string s] w fun e w' => ∃ vi vo, e = .returned (.tuple #[.agg (m.row vi vo), .int .i64 r]) ∧ Kd.R k51 51 w' w.heap.size (fun _ => True) vi m.ias ∧ Kd.R k42 42 w' w.heap.size (fun _ => True) vo m.opts ∧ Below w.heap.size w w' := by
  have hu26 := Try.underlying26
  have hu42 := Try.underlying42
  have hi26 : (Try.prog.info? 26).map (·.size) = some 10 := by kernel_rfl
  have hi42 : (Try.prog.info? 42).map (·.size) = some 2 := by kernel_rfl
  have hmm := @run_makeMap Try.prog
  unfold wire6_Decode.f at h
  have BA := Aside0.mk (blk_new w (.cells #[.int .i64 0, .int .u32 0, .string (⟨#[]⟩ : ByteArray), .string (⟨#[]⟩ : ByteArray), .slice none 0 0, .int .i64 0, .bool false, .bool false, .int .i64 0, .slice none 0 0] 26))
  have HB := Aside0.mk (below_alloc (Below.refl _ w) (.cells #[.int .i64 0, .int .u32 0, .string (⟨#[]⟩ : ByteArray), .string (⟨#[]⟩ : ByteArray), .slice none 0 0, .int .i64 0, .bool false, .bool false, .int .i64 0, .slice none 0 0] 26))
  have GA := Aside0.mk (Nat.le_refl w.heap.size)
  go_enter Try.func17, Try.ntmps17
  go_upto_region 1 with fail
  generalize w.alloc (.cells #[.int .i64 0, .int .u32 0, .string (⟨#[]⟩ : ByteArray), .string (⟨#[]⟩ : ByteArray), .slice none 0 0, .int .i64 0, .bool false, .bool false, .int .i64 0, .slice none 0 0] 26) = wa at BA HB ⊢
  obtain ⟨ga, hga⟩ : ∃ ga, ga = w.heap.size := ⟨_, rfl⟩
  have GA : Aside0 (w.heap.size ≤ ga) := ⟨Nat.le_of_eq hga.symm⟩
  rw [← hga] at BA
  have hgz : (Value.pointer (some ⟨w.heap.size, 0, none⟩)) = .pointer (some ⟨ga, 0, none⟩) := by rw [hga]
  rw [hgz]
  clear hgz hga
  by_cases c1 : (s.size : Int) > 65507
  · rw [if_pos c1] at h
    have hmr := Option.some.inj h
    injection hmr with hm1 hr1
    subst hm1 hr1
    have hc : decide ((65507 : Int) < (s.size : Int)) = true := decide_eq_true c1
    go_wp2_with ((with_reducible refine gate_store (p := 2) rfl ?_); refine XBox.storeL_ rfl rfl 26 rfl ga rfl #[.int .i64 0, .int .u32 0, .string (⟨#[]⟩ : ByteArray), .string (⟨#[]⟩ : ByteArray), .slice none 0 0, .int .i64 0, .bool false, .bool false, .int .i64 0, .slice none 0 0] #[.int .i64 0, .int .u32 0, .string (⟨#[]⟩ : ByteArray), .string (⟨#[]⟩ : ByteArray), .slice none 0 0, .int .i64 0, .bool false, .bool false, .int .i64 0, .slice none 0 0] rfl BA.out hi26 (Eq.refl 10) (by simp [Value.oneCell']) ?_; intro wz hw1 hw2 hw3; have BR := Aside0.mk hw1; have HR := Aside0.mk (HB.out.trans (hw2 _ GA.out)); clear hw1 hw2 hw3)
    refine bodyPost_ret (results_ct rfl _ _ ga 26 #[.int .i64 0, .int .u32 0, .string (⟨#[]⟩ : ByteArray), .string (⟨#[]⟩ : ByteArray), .slice none 0 0, .int .i64 0, .bool false, .bool false, .int .i64 0, .slice none 0 0] (0, 0) _ rfl BR.out hu26 rfl (by kernel_rfl)) rfl ?_
    exact ⟨.slice none 0 0, .slice none 0 0, rfl, Kd.R_nil _ _ _ _ _, Kd.R_nil _ _ _ _ _, HR.out⟩
  rw [if_neg c1] at h
  obtain ⟨⟨hv, ok⟩, hG, h⟩ := Option.bind_eq_some_iff.1 h
  have HG := Aside0.mk hG
  have hc : decide ((65507 : Int) < (s.size : Int)) = false := decide_eq_false c1
  have C1 := Aside0.mk c1
  clear hG c1
  go_upto_region 4 with (go_at_call 29; refine (octet_Get32.calls k s 0 hv ok _ HG.out).mono ?_; rintro e wb ⟨rfl, hb⟩; have BAb := Aside0.mk (blk_below BA.out hb); have HBb := Aside0.mk (below_step HB.out hb); clear hb)
  clear BA HB hc
  cases ok with
  | false =>
    rw [if_pos rfl] at h
    have hmr := Option.some.inj h
    injection hmr with hm1 hr1
    subst hm1 hr1
    go_wp2_with ((with_reducible refine gate_store (p := 2) rfl ?_); refine XBox.storeL_ rfl rfl 26 rfl ga rfl #[.int .i64 0, .int .u32 0, .string (⟨#[]⟩ : ByteArray), .string (⟨#[]⟩ : ByteArray), .slice none 0 0, .int .i64 0, .bool false, .bool false, .int .i64 0, .slice none 0 0] #[.int .i64 0, .int .u32 0, .string (⟨#[]⟩ : ByteArray), .string (⟨#[]⟩ : ByteArray), .slice none 0 0, .int .i64 0, .bool false, .bool false, .int .i64 0, .slice none 0 0] rfl BAb.out hi26 (Eq.refl 10) (by simp [Value.oneCell']) ?_; intro wz hw1 hw2 hw3; have BR := Aside0.mk hw1; have HR := Aside0.mk (HBb.out.trans (hw2 _ GA.out)); clear hw1 hw2 hw3)
    refine bodyPost_ret (results_ct rfl _ _ ga 26 #[.int .i64 0, .int .u32 0, .string (⟨#[]⟩ : ByteArray), .string (⟨#[]⟩ : ByteArray), .slice none 0 0, .int .i64 0, .bool false, .bool false, .int .i64 0, .slice none 0 0] (0, 0) _ rfl BR.out hu26 rfl (by kernel_rfl)) rfl ?_
    exact ⟨.slice none 0 0, .slice none 0 0, rfl, Kd.R_nil _ _ _ _ _, Kd.R_nil _ _ _ _ _, HR.out⟩
  | true =>
    rw [if_neg (by decide)] at h
    by_cases c2 : 4 ≤ s.size ∧ 0 ≤ hv ∧ hv < 4294967296
    case neg => rw [if_neg c2] at h; cases h
    rw [if_pos c2] at h
    have C2 := Aside0.mk c2
    have hq : IntKind.i64.wrap (hv / 16777216) = hv / 16777216 := Go.IntWalk.i64_in _ (by omega)
    have hq2 : wrap64 (hv / 16777216) = hv / 16777216 := Go.IntWalk.wrap64_in _ (by omega)
    clear c2
    go_upto_region 7 with (go_at_call 11; refine (w6blank_calls (hv / 16777216) _).mono ?_; rintro e wc ⟨rfl, hb⟩; have BAc := Aside0.mk (blk_below BAb.out hb); have HBc := Aside0.mk (below_step HBb.out hb); clear hb)
    clear hq hq2
    have BAd := Aside0.mk (blk_alloc BAc.out (.cells #[.int .i64 (hv / 16777216), .int .u32 0, .string (⟨#[]⟩ : ByteArray), .string (⟨#[]⟩ : ByteArray), .slice none 0 0, .int .i64 (-1), .bool false, .bool false, .int .i64 0, .slice none 0 0] 26))
    have HBd := Aside0.mk (below_alloc HBc.out (.cells #[.int .i64 (hv / 16777216), .int .u32 0, .string (⟨#[]⟩ : ByteArray), .string (⟨#[]⟩ : ByteArray), .slice none 0 0, .int .i64 (-1), .bool false, .bool false, .int .i64 0, .slice none 0 0] 26))
    have bm := blk_new wc (.cells #[.int .i64 (hv / 16777216), .int .u32 0, .string (⟨#[]⟩ : ByteArray), .string (⟨#[]⟩ : ByteArray), .slice none 0 0, .int .i64 (-1), .bool false, .bool false, .int .i64 0, .slice none 0 0] 26)
    have LM : Aside0 (w.heap.size ≤ wc.heap.size ∧ ga < wc.heap.size ∧ wc.heap.size < (wc.alloc (.cells #[.int .i64 (hv / 16777216), .int .u32 0, .string (⟨#[]⟩ : ByteArray), .string (⟨#[]⟩ : ByteArray), .slice none 0 0, .int .i64 (-1), .bool false, .bool false, .int .i64 0, .slice none 0 0] 26)).heap.size) := ⟨HBc.out.size, blk_lt BAc.out, by rw [World.size_alloc]; omega⟩
    generalize wc.alloc (.cells #[.int .i64 (hv / 16777216), .int .u32 0, .string (⟨#[]⟩ : ByteArray), .string (⟨#[]⟩ : ByteArray), .slice none 0 0, .int .i64 (-1), .bool false, .bool false, .int .i64 0, .slice none 0 0] 26) = wd at BAd HBd bm LM ⊢
    generalize wc.heap.size = gm at bm LM ⊢
    have hm1 : World.cell? wd ⟨gm, 1, none⟩ = some (.int .u32 0) := (blk_cell bm 1).trans rfl
    have hf1 := blk_frozen bm 1
    have BAe := Aside0.mk (blk_put_ne BAd.out (show ga ≠ gm by have := LM.out; omega) 1 (.int .u32 (Go.bits .and .u32 hv 16777215)))
    have HBe := Aside0.mk (HBd.out.setCell (p := ⟨gm, 1, none⟩) LM.out.1 (.int .u32 (Go.bits .and .u32 hv 16777215)))
    have bm1 : (wd.setCell ⟨gm, 1, none⟩ (.int .u32 (Go.bits .and .u32 hv 16777215))).heap[gm]? = some (.cells #[.int .i64 (hv / 16777216), .int .u32 (Go.bits .and .u32 hv 16777215), .string (⟨#[]⟩ : ByteArray), .string (⟨#[]⟩ : ByteArray), .slice none 0 0, .int .i64 (-1), .bool false, .bool false, .int .i64 0, .slice none 0 0] 26 (0, 0)) := blk_put bm 1 _ rfl
    have LM1 : Aside0 (gm < (wd.setCell ⟨gm, 1, none⟩ (.int .u32 (Go.bits .and .u32 hv 16777215))).heap.size) := ⟨blk_lt bm1⟩
    go_upto_region 8 with fail
    generalize wd.setCell ⟨gm, 1, none⟩ (.int .u32 (Go.bits .and .u32 hv 16777215)) = we at BAe HBe bm1 LM1 ⊢
    clear hm1 hf1 bm BAd HBd BAc HBc BAb HBb
    have BM := Aside0.mk bm1
    have hm0 : World.cell? we ⟨gm, 0, none⟩ = some (.int .i64 (hv / 16777216)) := (blk_cell bm1 0).trans rfl
    clear bm1
    by_cases c3 : hv / 16777216 < 1 ∨ hv / 16777216 > 11
    · rw [if_pos c3] at h
      have hmr := Option.some.inj h
      injection hmr with hm1 hr1
      subst hm1 hr1
      by_cases c4 : hv / 16777216 < 1
      · generalize hv / 16777216 = ty at c4 hm0 ⊢
        go_wp2_with ((with_reducible refine gate_store (p := 2) rfl ?_); refine XBox.storeL_ rfl rfl 26 rfl ga rfl #[.int .i64 0, .int .u32 0, .string (⟨#[]⟩ : ByteArray), .string (⟨#[]⟩ : ByteArray), .slice none 0 0, .int .i64 0, .bool false, .bool false, .int .i64 0, .slice none 0 0] #[.int .i64 0, .int .u32 0, .string (⟨#[]⟩ : ByteArray), .string (⟨#[]⟩ : ByteArray), .slice none 0 0, .int .i64 0, .bool false, .bool false, .int .i64 0, .slice none 0 0] rfl BAe.out hi26 (Eq.refl 10) (by simp [Value.oneCell']) ?_; intro wz hw1 hw2 hw3; have BR := Aside0.mk hw1; have HR := Aside0.mk (HBe.out.trans (hw2 _ GA.out)); clear hw1 hw2 hw3)
        refine bodyPost_ret (results_ct rfl _ _ ga 26 #[.int .i64 0, .int .u32 0, .string (⟨#[]⟩ : ByteArray), .string (⟨#[]⟩ : ByteArray), .slice none 0 0, .int .i64 0, .bool false, .bool false, .int .i64 0, .slice none 0 0] (0, 0) _ rfl BR.out hu26 rfl (by kernel_rfl)) rfl ?_
        exact ⟨.slice none 0 0, .slice none 0 0, rfl, Kd.R_nil _ _ _ _ _, Kd.R_nil _ _ _ _ _, HR.out⟩
      · have c5 : (11 : Int) < hv / 16777216 := by omega
        clear c3
        generalize hv / 16777216 = ty at c4 c5 hm0 ⊢
        go_wp2_with ((with_reducible refine gate_store (p := 2) rfl ?_); refine XBox.storeL_ rfl rfl 26 rfl ga rfl #[.int .i64 0, .int .u32 0, .string (⟨#[]⟩ : ByteArray), .string (⟨#[]⟩ : ByteArray), .slice none 0 0, .int .i64 0, .bool false, .bool false, .int .i64 0, .slice none 0 0] #[.int .i64 0, .int .u32 0, .string (⟨#[]⟩ : ByteArray), .string (⟨#[]⟩ : ByteArray), .slice none 0 0, .int .i64 0, .bool false, .bool false, .int .i64 0, .slice none 0 0] rfl BAe.out hi26 (Eq.refl 10) (by simp [Value.oneCell']) ?_; intro wz hw1 hw2 hw3; have BR := Aside0.mk hw1; have HR := Aside0.mk (HBe.out.trans (hw2 _ GA.out)); clear hw1 hw2 hw3)
        refine bodyPost_ret (results_ct rfl _ _ ga 26 #[.int .i64 0, .int .u32 0, .string (⟨#[]⟩ : ByteArray), .string (⟨#[]⟩ : ByteArray), .slice none 0 0, .int .i64 0, .bool false, .bool false, .int .i64 0, .slice none 0 0] (0, 0) _ rfl BR.out hu26 rfl (by kernel_rfl)) rfl ?_
        exact ⟨.slice none 0 0, .slice none 0 0, rfl, Kd.R_nil _ _ _ _ _, Kd.R_nil _ _ _ _ _, HR.out⟩
    rw [if_neg c3] at h
    have c4 : ¬ hv / 16777216 < 1 := fun e => c3 (.inl e)
    have c5 : ¬ (11 : Int) < hv / 16777216 := fun e => c3 (.inr e)
    obtain ⟨⟨l, e6⟩, hP, h⟩ := Option.bind_eq_some_iff.1 h
    have HP := Aside0.mk hP
    have h4 : (4 : Int) ≤ (s.size : Int) := by have := C2.out; omega
    have h4n : 4 ≤ s.size := C2.out.1
    clear c3 hP
    go_upto_region 11 with (go_at_call 19; refine (opt6_Parse.calls k (s.extract 4 s.size) l e6 _ HP.out).mono ?_; rintro e wf ⟨vl, rfl, hrl, hb⟩; obtain ⟨Al, cl, rfl⟩ := Kd.R_slice hrl; have RL := Aside0.mk hrl; have BAf := Aside0.mk (blk_below BAe.out hb); have BMf := Aside0.mk (blk_below BM.out hb); have HBf := Aside0.mk (below_step HBe.out hb); have LM2 := Aside0.mk (show gm < wf.heap.size by have := LM1.out; have := hb.size; omega); clear hrl hb)
    have HBSZ := Aside0.mk HBe.out.size
    clear BAe HBe BM hm0 h4 h4n c4 c5 HP HG
    by_cases c6 : e6 = 0
    case neg =>
      rw [if_neg c6] at h
      have hmr := Option.some.inj h
      injection hmr with hm1 hr1
      subst hm1 hr1
      have c6b : (e6 != 0) = true := by simpa using c6
      go_wp2_with ((with_reducible refine gate_store (p := 2) rfl ?_); refine XBox.storeL_ rfl rfl 26 rfl ga rfl #[.int .i64 0, .int .u32 0, .string (⟨#[]⟩ : ByteArray), .string (⟨#[]⟩ : ByteArray), .slice none 0 0, .int .i64 0, .bool false, .bool false, .int .i64 0, .slice none 0 0] #[.int .i64 0, .int .u32 0, .string (⟨#[]⟩ : ByteArray), .string (⟨#[]⟩ : ByteArray), .slice none 0 0, .int .i64 0, .bool false, .bool false, .int .i64 0, .slice none 0 0] rfl BAf.out hi26 (Eq.refl 10) (by simp [Value.oneCell']) ?_; intro wz hw1 hw2 hw3; have BR := Aside0.mk hw1; have HR := Aside0.mk (HBf.out.trans (hw2 _ GA.out)); clear hw1 hw2 hw3)
      refine bodyPost_ret (results_ct rfl _ _ ga 26 #[.int .i64 0, .int .u32 0, .string (⟨#[]⟩ : ByteArray), .string (⟨#[]⟩ : ByteArray), .slice none 0 0, .int .i64 0, .bool false, .bool false, .int .i64 0, .slice none 0 0] (0, 0) _ rfl BR.out hu26 rfl (by kernel_rfl)) rfl ?_
      exact ⟨.slice none 0 0, .slice none 0 0, rfl, Kd.R_nil _ _ _ _ _, Kd.R_nil _ _ _ _ _, HR.out⟩
    rw [if_pos c6] at h
    subst c6
    by_cases c7 : l.length < 1000000
    case neg => rw [if_neg c7] at h; cases h
    rw [if_pos c7] at h
    have C7 := Aside0.mk c7
    have H0 := Aside0.mk h
    clear c7 h
    go_upto_region 14 with fail
    have LB : Aside0 (w.heap.size ≤ ga ∧ ga < wf.heap.size ∧ w.heap.size ≤ gm ∧ gm < wf.heap.size ∧ ga ≠ gm) := ⟨by have := GA.out; have := LM.out; have := LM2.out; have := blk_lt BAf.out; omega⟩
    have M0 : Aside0 (M6 w (wf.heap.size + 1) gm (fun q => wf.heap.size + 1 ≤ q) (w6new hv) (wf.alloc (.map #[] 0))) := ⟨⟨⟨.slice none 0 0, .slice none 0 0, blk_alloc BMf.out _, Kd.R_nil _ _ _ _ _, Kd.R_nil _ _ _ _ _⟩, below_alloc HBf.out _, LB.out.2.2.1, by have := LB.out; omega, by rw [World.size_alloc]; omega⟩⟩
    have OW0 : Aside0 ((wf.alloc (.map #[] 0)).ownsMap Try.prog 40 (plainElem (H := Unit) Try.prog 3) wf.heap.size 0 (.map [])) := ⟨World.ownsMap_made _ _ _ _⟩
    have LR0 : Aside0 (Kd.R k42 42 (wf.alloc (.map #[] 0)) w.heap.size (fun q => q < wf.heap.size ∧ q ≠ gm) (.slice Al l.length cl) l) := ⟨Kd.R_lower (Kd.R_alloc (Kd.R_mono (Kd.R_bound RL.out) (fun q hq => ⟨hq.2.2.1, by have := hq.2.1; have := LM1.out; omega⟩)) _) HBSZ.out⟩
    have BA0 := Aside0.mk (blk_alloc BAf.out (.map #[] 0))
    clear BMf HBf RL BAf LM LM1 LM2
    generalize wf.alloc (.map #[] 0) = wg at M0 OW0 LR0 BA0 ⊢
    have NEB0 : Aside0 (wf.heap.size ≠ gm) := ⟨by have := LB.out; omega⟩
    generalize wf.heap.size = gB at M0 OW0 LR0 LB NEB0 ⊢
    have NEB : Aside0 (gB ≠ gm) := NEB0
    clear NEB0
    go_upto_region 15 with fail
    go_loopg [11, 12, 54] l.length (fun gg _ _ s54 wr => ∃ (kk : Nat) (seen : List Int) (D : DataW Unit) (m1 : Ms), Aside0 (kk ≤ l.length ∧ l.length - kk ≤ gg) ∧ s54 = .int .i64 kk ∧ Aside0 (M6 w (gB + 1) gm (fun q => gB + 1 ≤ q) m1 wr) ∧ Aside0 (wr.heap[ga]? = some (.cells #[.int .i64 0, .int .u32 0, .string (⟨#[]⟩ : ByteArray), .string (⟨#[]⟩ : ByteArray), .slice none 0 0, .int .i64 0, .bool false, .bool false, .int .i64 0, .slice none 0 0] 26 (0, 0))) ∧ Aside0 (wr.ownsMap Try.prog 40 (plainElem (H := Unit) Try.prog 3) gB kk D) ∧ Aside0 (Cnt D seen) ∧ Aside0 (seen.length = kk) ∧ Aside0 (Kd.R k42 42 wr w.heap.size (fun q => q < gB ∧ q ≠ gm) (.slice Al l.length cl) l) ∧ Aside0 (w6run (l.drop kk) seen m1 = some (m, r)))
    case atStart => exact ⟨0, [], .map [], w6new hv, ⟨by omega⟩, rfl, M0, BA0, OW0, ⟨Cnt.nil⟩, ⟨rfl⟩, LR0, by rw [List.drop_zero]; exact H0⟩
    case round =>
      clear M0 OW0 LR0 BA0 H0
      obtain ⟨kk, seen, D, m1, HK, rfl, M, BA, OW, HC, HSN, LR, H⟩ := hrel
      by_cases hlt : kk < l.length
      · have hltz : (kk : Int) < (l.length : Int) := by omega
        have HLT := Aside0.mk hlt
        obtain ⟨_, _, hC⟩ := Kd.R_reads' LR.out
        obtain ⟨ad, hA, hx0, hx1⟩ := at_T42 hC (kk : Int) (by omega) (by omega)
        simp only [Int.toNat_natCast] at hx0 hx1
        have hd : l.drop kk = (rd_T42 l (kk : Int)) :: l.drop (kk + 1) := by
          rw [List.drop_eq_getElem_cons hlt]
          simp [rd_T42, List.getD_eq_getElem?_getD, List.getElem?_eq_getElem hlt]
        have h := H.out
        rw [hd] at h
        obtain ⟨x, hx⟩ : ∃ x, x = rd_T42 l (kk : Int) := ⟨_, rfl⟩
        rw [← hx] at h hx0 hx1
        rw [w6run] at h
        clear hd hx H hC hlt
        by_cases cx : 0 ≤ x.f0 ∧ x.f0 < 65536 ∧ x.f1.size ≤ 9223372036854775807
        case neg => rw [if_neg cx] at h; cases h
        rw [if_pos cx] at h
        obtain ⟨⟨m2, rr⟩, hrd, h⟩ := Option.bind_eq_some_iff.1 h
        have CX := Aside0.mk cx
        have HRD := Aside0.mk hrd
        have H := Aside0.mk h
        clear cx hrd h
        subst hA
        go_upto_region 17 with fail
        clear hx0 hx1
        have LG : Aside0 (gB + 1 ≤ wr.heap.size ∧ wr.heap.size < (wr.alloc (.cells #[.int .u16 x.f0, .string x.f1] 42)).heap.size) := ⟨M.out.low.2.2, by rw [World.size_alloc]; omega⟩
        have SZ1 : Aside0 ((wr.alloc (.cells #[.int .u16 x.f0, .string x.f1] 42)).heap.size = wr.heap.size + 1) := ⟨World.size_alloc _ _⟩
        have M1 : Aside0 (M6 w (gB + 1) gm (fun q => gB + 1 ≤ q ∧ q ≠ wr.heap.size) m1 (wr.alloc (.cells #[.int .u16 x.f0, .string x.f1] 42))) := ⟨(M.out.bound.mono (fun q hq => ⟨hq.1, by have := hq.2.2; omega⟩)).below (below_alloc (Below.refl _ wr) _)⟩
        have BA1 := Aside0.mk (blk_alloc BA.out (.cells #[.int .u16 x.f0, .string x.f1] 42))
        have OW1 := Aside0.mk (OW.out.alloc (.cells #[.int .u16 x.f0, .string x.f1] 42))
        have LR1 := Aside0.mk (Kd.R_alloc LR.out (.cells #[.int .u16 x.f0, .string x.f1] 42))
        have bx := blk_new wr (.cells #[.int .u16 x.f0, .string x.f1] 42)
        generalize wr.alloc (.cells #[.int .u16 x.f0, .string x.f1] 42) = w1 at M1 BA1 OW1 LR1 bx LG SZ1 ⊢
        generalize wr.heap.size = gx at M1 bx LG SZ1 ⊢
        have BX := Aside0.mk bx
        have hxa : World.cell? w1 ⟨gx, 0, none⟩ = some (.int .u16 x.f0) := (blk_cell bx 0).trans rfl
        have hxb : World.cell? w1 ⟨gx, 1, none⟩ = some (.string x.f1) := (blk_cell bx 1).trans rfl
        obtain ⟨cn, hcn⟩ : ∃ cn : Int, cn = (seen.count x.f0 : Nat) := ⟨_, rfl⟩
        obtain ⟨bb, hbb⟩ : ∃ bb, bb = seen.contains x.f0 := ⟨_, rfl⟩
        have hdec : decide (0 < cn) = bb := by
          rw [hbb, hcn]
          exact contains_count seen x.f0
        have HAT : Aside0 (D.atKey (.int .u16 x.f0) (.lit (.int .i64 0)) = .lit (.int .i64 cn)) := ⟨by rw [hcn]; exact HC.out.2 x.f0 ⟨CX.out.1, CX.out.2.1⟩⟩
        have HCN := Aside0.mk hcn
        have HBB := Aside0.mk hbb
        clear bx M BA OW LR hcn hbb
        go_upto_region 18 with (first
          | (at_lookup; refine wpList_lookup_own_int _ rfl _ _ 67 rfl 40 3 .i64 law40 Try.underlying67 Try.underlying3 (zero3 _) gB kk _ rfl OW1.out _ _ rfl (Go.Maps.keyOf_int_mk Try.underlying40 (wf_u16 ⟨CX.out.1, CX.out.2.1⟩)) ?_; intro c hat hwc; obtain rfl : c = cn := (by have h1_ := hat.symm.trans HAT.out; injection h1_ with h1_; injection h1_); clear hat hwc)
          | (go_at_call 30; refine (wire6_read.calls w (gB + 1) gm (fun q => gB + 1 ≤ q ∧ q ≠ gx) m1 m2 x.f0 x.f1 bb rr _ M1.out (fun q hq => by have := LG.out; omega) CX.out.2.2 (by rw [HBB.out]; exact HRD.out)).mono ?_; rintro e w2 ⟨rfl, hm2, hf2⟩; have M2 := Aside0.mk hm2; have F2 := Aside0.mk hf2; clear hm2 hf2))
        have BA2 : Aside0 (w2.heap[ga]? = some (.cells #[.int .i64 0, .int .u32 0, .string (⟨#[]⟩ : ByteArray), .string (⟨#[]⟩ : ByteArray), .slice none 0 0, .int .i64 0, .bool false, .bool false, .int .i64 0, .slice none 0 0] 26 (0, 0))) := ⟨(F2.out.2 ga (blk_lt BA1.out) LB.out.2.2.2.2 (fun hq => by have := hq.1; have := LB.out; omega)).trans BA1.out⟩
        clear hxa hxb hdec BA1 M1
        by_cases c8 : rr = 0
        case neg =>
          have h := H.out
          rw [if_neg c8] at h
          have hmr := Option.some.inj h
          injection hmr with hm1 hr1
          subst hm1 hr1
          have c8b : (rr != 0) = true := by simpa using c8
          have HB2 := Aside0.mk M2.out.bel
          go_wp2_with ((with_reducible refine gate_store (p := 2) rfl ?_); refine XBox.storeL_ rfl rfl 26 rfl ga rfl #[.int .i64 0, .int .u32 0, .string (⟨#[]⟩ : ByteArray), .string (⟨#[]⟩ : ByteArray), .slice none 0 0, .int .i64 0, .bool false, .bool false, .int .i64 0, .slice none 0 0] #[.int .i64 0, .int .u32 0, .string (⟨#[]⟩ : ByteArray), .string (⟨#[]⟩ : ByteArray), .slice none 0 0, .int .i64 0, .bool false, .bool false, .int .i64 0, .slice none 0 0] rfl BA2.out hi26 (Eq.refl 10) (by simp [Value.oneCell']) ?_; intro wz hw1 hw2 hw3; have BR := Aside0.mk hw1; have HR := Aside0.mk (HB2.out.trans (hw2 _ GA.out)); clear hw1 hw2 hw3)
          refine bodyPost_ret (results_ct rfl _ _ ga 26 #[.int .i64 0, .int .u32 0, .string (⟨#[]⟩ : ByteArray), .string (⟨#[]⟩ : ByteArray), .slice none 0 0, .int .i64 0, .bool false, .bool false, .int .i64 0, .slice none 0 0] (0, 0) _ rfl BR.out hu26 rfl (by kernel_rfl)) rfl ?_
          exact ⟨.slice none 0 0, .slice none 0 0, rfl, Kd.R_nil _ _ _ _ _, Kd.R_nil _ _ _ _ _, HR.out⟩
        subst c8
        have H2 : Aside0 (w6run (l.drop (kk + 1)) (x.f0 :: seen) m2 = some (m, r)) := ⟨by have h := H.out; rw [if_pos rfl] at h; exact h⟩
        have OW2 := Aside0.mk (own_heap OW1.out (F2.out.2 gB (by have := LG.out; omega) (by have := LB.out; have := M2.out.low; intro e; have h1_ := OW1.out.lt; exact NEB.out e) (fun hq => by have := hq.1; omega)))
        have LR2 := Aside0.mk (Kd.R_step LR1.out (fun q hq hlt => F2.out.2 q hlt hq.2 (fun hs => by have := hs.1; have := hq.1; omega)))
        have bx2 := (F2.out.2 gx LG.out.2 (by have := M2.out.low; have := LG.out; omega) (fun hq => hq.2 rfl)).trans BX.out
        have hxa : World.cell? w2 ⟨gx, 0, none⟩ = some (.int .u16 x.f0) := (blk_cell bx2 0).trans rfl
        have hw1 : wrap64 (c + 1) = c + 1 := Go.IntWalk.wrap64_in _ (by have h1_ := HCN.out; have h2_ := List.count_le_length (a := x.f0) (l := seen); have h3_ := HSN.out; have h4_ := HLT.out; have h5_ := C7.out; omega)
        have HW1 := Aside0.mk hw1
        clear bx2 H OW1 LR1 F2 BX
        go_upto_region 21 with (first
          | (at_lookup; refine wpList_lookup_own_int _ rfl _ _ 67 rfl 40 3 .i64 law40 Try.underlying67 Try.underlying3 (zero3 _) gB kk _ rfl OW2.out _ _ rfl (Go.Maps.keyOf_int_mk Try.underlying40 (wf_u16 ⟨CX.out.1, CX.out.2.1⟩)) ?_; intro c2 hat hwc; obtain rfl : c2 = c := (by have h1_ := hat.symm.trans HAT.out; injection h1_ with h1_; injection h1_); clear hat hwc)
          | (at_mapUpdate; refine wpList_mapUpdate_own _ rfl _ _ _ 67 rfl 40 3 law40 Try.underlying67 _ gB kk _ rfl OW2.out (by have := HLT.out; have := C7.out; unfold maxLen; omega) _ _ _ rfl rfl (Go.Maps.keyOf_int_mk Try.underlying40 (wf_u16 ⟨CX.out.1, CX.out.2.1⟩)) _ [] (plainElem_int Try.underlying3 (wrap64_wf _)) ?_; intro w3 hown3 hg3; have OW3 := Aside0.mk hown3; have G3 := Aside0.mk hg3; clear hown3 hg3))
        have NEX : ∀ q, q ≠ gB → some q ≠ some gB := fun q hq e => hq (Option.some.inj e)
        have M3 := Aside0.mk ((M2.out.mono (fun q hq => hq.1)).mapped G3.out NEB.out (by omega) (by have := LB.out; omega))
        have BA3 := Aside0.mk (blk_grown BA2.out G3.out (NEX ga (by have := LB.out; omega)))
        have LR3 := Aside0.mk (Kd.R_step LR2.out (fun q hq hlt => G3.out.block q hlt (NEX q (by have := hq.1; omega))))
        have HC3 : Aside0 (Cnt (D.put (.int .u16 x.f0) (.lit (.int .i64 (wrap64 (c2 + 1))))) (x.f0 :: seen)) := ⟨by rw [HW1.out, HCN.out]; exact HC.out.put x.f0 ⟨CX.out.1, CX.out.2.1⟩⟩
        clear M2 BA2 OW2 LR2 G3 HC HAT HCN HBB NEX hxa hw1
        go_wp2
        go_roundg (l.length - (kk + 1))
        case measure => have := HK.out; have := HLT.out; omega
        case rel => exact ⟨kk + 1, _, _, m2, ⟨by have := HLT.out; omega⟩, by first | rfl | (rw [Go.IntWalk.wrap64_in _ (by have := HLT.out; have := C7.out; omega)]; rfl), M3, BA3, OW3, HC3, ⟨by rw [List.length_cons, HSN.out]⟩, LR3, H2⟩
      · obtain rfl : kk = l.length := by have := HK.out; omega
        have hltz : ¬ (l.length : Int) < (l.length : Int) := by omega
        have h := H.out
        rw [List.drop_length] at h
        have hmr := Option.some.inj (show some (m1, (0 : Int)) = some (m, r) from h)
        injection hmr with hm1 hr1
        subst hm1 hr1
        obtain ⟨⟨vi, vo, hb, hri, hro⟩, hbel, hlow⟩ := M.out
        obtain ⟨Ai, ci, rfl⟩ := Kd.R_slice hri
        obtain ⟨Ao, co, rfl⟩ := Kd.R_slice hro
        have BM := Aside0.mk hb
        have RI := Aside0.mk (Kd.R_bound hri)
        have RO := Aside0.mk (Kd.R_bound hro)
        have HBr := Aside0.mk hbel
        clear h H hb hri hro hbel hlow OW HC LR M HK
        go_wp2_with (first
          | ((with_reducible refine gate_dst (N := 75) rfl ?_); refine XBox.loadL_ 75 rfl rfl 26 rfl gm rfl (m1.row (.slice Ai m1.ias.length ci) (.slice Ao m1.opts.length co)) BM.out hu26 rfl hi26 ?_; simp only [Act.put, List.setIfInBounds_toArray, List.set_cons_zero, List.set_cons_succ])
          | ((with_reducible refine gate_store (p := 2) rfl ?_); refine XBox.storeL_ rfl rfl 26 rfl ga rfl #[.int .i64 0, .int .u32 0, .string (⟨#[]⟩ : ByteArray), .string (⟨#[]⟩ : ByteArray), .slice none 0 0, .int .i64 0, .bool false, .bool false, .int .i64 0, .slice none 0 0] (m1.row (.slice Ai m1.ias.length ci) (.slice Ao m1.opts.length co)) rfl BA.out hi26 (Eq.refl 10) (by simp [Ms.row, Value.oneCell']) ?_; intro wz hw1 hw2 hw3; have BR := Aside0.mk hw1; have HR := Aside0.mk (HBr.out.trans (hw2 _ GA.out)); have RI2 := Aside0.mk (Kd.R_lower (Kd.R_mono (Kd.R_step RI.out (fun q hq _ => hw3 q (by have := hq.2.1; have := LB.out; omega))) (fun _ _ => trivial)) (by have := LB.out; omega : w.heap.size ≤ gB + 1)); have RO2 := Aside0.mk (Kd.R_lower (Kd.R_mono (Kd.R_step RO.out (fun q hq _ => hw3 q (by have := hq.2.1; have := LB.out; omega))) (fun _ _ => trivial)) (by have := LB.out; omega : w.heap.size ≤ gB + 1)); clear hw1 hw2 hw3))
        refine bodyPost_ret (results_ct rfl _ _ ga 26 (m1.row (.slice Ai m1.ias.length ci) (.slice Ao m1.opts.length co)) (0, 0) _ rfl BR.out hu26 rfl (by kernel_rfl)) rfl ?_
        exact ⟨_, _, rfl, RI2.out, RO2.out, HR.out⟩

end Go.Proofs.Ythadapbekmmgpaa.X
