/- no condition. -/
import Derived.Test.YthadapbekmmgpaaDX0
import Derived.Test.YthadapbekmmgpaaDX9
import Derived.Test.YthadapbekmmgpaaDXBox
import Derived.Test.YthadapbekmmgpaaDXCv
import Derived.Test.YthadapbekmmgpaaDXE3
import Derived.Test.YthadapbekmmgpaaDXE4
import Derived.Test.YthadapbekmmgpaaDXF1
import Derived.Test.YthadapbekmmgpaaDXF2
import Derived.Test.YthadapbekmmgpaaDXIn
import Derived.Test.YthadapbekmmgpaaDXOrow
import Derived.Test.YthadapbekmmgpaaDXReg
import Derived.Test.YthadapbekmmgpaaDXRegF
import Derived.Test.YthadapbekmmgpaaDXRegP
import Derived.Test.YthadapbekmmgpaaDXRegQ
import Derived.Outline
import Derived.Lib.Hide
import Derived.Laws.IdiomCopy
import Derived.Lib.SliceRun
import Derived.WalkSpells
namespace Go.Proofs.Ythadapbekmmgpaa.X
open Go.RowKit Go.Proofs.YthadapbekmmgpaaW.PrintWords Go.Proofs.YthadapbekmmgpaaW.PrintLast Go.Proofs.YthadapbekmmgpaaW.PrintMore
set_option linter.unusedVariables false
set_option linter.unusedSimpArgs false
def w6rtw (k : Nat) (all : List S42) (i : Nat) (c : Int) : Option Bool := (tenancyref16_own.f c).bind fun b => if b = true ∧ ¬ c = 3 ∧ ¬ c = 4 ∧ ¬ c = 25 then tenancyref16_met.f k all (i : Int) c else some false
def w6rrun (k : Nat) (all : List S42) : List S42 → Nat → Ms → Option (Ms × Int)
  | [], _, m => some (m, 0)
  | o :: l, i, m => if o.f1.size ≤ 9223372036854775807 then (w6rtw k all i o.f0).bind fun t => if t = true then some (mZ, 130) else (tenancyref16_one.f k m o.f0 o.f1).bind fun p => if p.2 = 0 then w6rrun k all l (i + 1) p.1 else some (mZ, p.2) else none
def w6rnew (ty n : Int) : Ms := ⟨ty, n % 16777216, ⟨#[]⟩, ⟨#[]⟩, [], -1, false, false, 0, []⟩
def tenancyref16_Decode.f (k : Nat) (s : ByteArray) : Option (Ms × Int) :=
  if (s.size : Int) > 65507 then some (mZ, 6)
  else if (s.size : Int) < 4 then some (mZ, 3)
  else if bt s 0 < 1 then some (mZ, 141)
  else if bt s 0 > 11 then some (mZ, 141)
  else (tenancyref15_Parse.f k (s.extract 4 s.size)).bind fun l => if l.2 = 0 then (tenancyref04_Get32.f k s 0).bind fun n => if l.1.length < 1000000 ∧ 0 ≤ n.1 ∧ n.1 < 4294967296 then w6rrun k l.1 l.1 0 (w6rnew (bt s 0) n.1) else none else some (mZ, l.2)
theorem w6rblank_calls (ty : Int) (w : World) : Calls Try.prog 12 #[.int .i64 ty] w fun e w' => e = .returned (.agg #[.int .i64 ty, .int .u32 0, .string (⟨#[]⟩ : ByteArray), .string (⟨#[]⟩ : ByteArray), .slice none 0 0, .int .i64 (-1), .bool false, .bool false, .int .i64 0, .slice none 0 0]) ∧ Below w.heap.size w w' := by
  have hu26 := Try.underlying26
  have hi26 : (Try.prog.info? 26).map (·.size) = some 10 := by kernel_rfl
  have BA := Aside0.mk (blk_new w (.cells #[.int .i64 0, .int .u32 0, .string (⟨#[]⟩ : ByteArray), .string (⟨#[]⟩ : ByteArray), .slice none 0 0, .int .i64 0, .bool false, .bool false, .int .i64 0, .slice none 0 0] 26))
  have HB := Aside0.mk (below_alloc (Below.refl _ w) (.cells #[.int .i64 0, .int .u32 0, .string (⟨#[]⟩ : ByteArray), .string (⟨#[]⟩ : ByteArray), .slice none 0 0, .int .i64 0, .bool false, .bool false, .int .i64 0, .slice none 0 0] 26))
  go_enter Try.func12, Try.ntmps12
  go_upto_region 1 with fail
  generalize w.alloc (.cells #[.int .i64 0, .int .u32 0, .string (⟨#[]⟩ : ByteArray), .string (⟨#[]⟩ : ByteArray), .slice none 0 0, .int .i64 0, .bool false, .bool false, .int .i64 0, .slice none 0 0] 26) = wa at BA HB ⊢
  go_wp2_with ((with_reducible refine gate_store (p := 2) rfl ?_); refine XBox.storeL_ rfl rfl 26 rfl w.heap.size rfl #[.int .i64 0, .int .u32 0, .string (⟨#[]⟩ : ByteArray), .string (⟨#[]⟩ : ByteArray), .slice none 0 0, .int .i64 0, .bool false, .bool false, .int .i64 0, .slice none 0 0] #[.int .i64 ty, .int .u32 0, .string (⟨#[]⟩ : ByteArray), .string (⟨#[]⟩ : ByteArray), .slice none 0 0, .int .i64 (-1), .bool false, .bool false, .int .i64 0, .slice none 0 0] rfl BA.out hi26 (Eq.refl 10) (by simp [Value.oneCell']) ?_; intro wz hw1 hw2 hw3; have BR := Aside0.mk hw1; have HR := Aside0.mk (HB.out.trans (hw2 _ (Nat.le_refl _))); clear hw1 hw2 hw3)
  refine bodyPost_ret (results_cell_row rfl _ _ w.heap.size 26 #[.int .i64 ty, .int .u32 0, .string (⟨#[]⟩ : ByteArray), .string (⟨#[]⟩ : ByteArray), .slice none 0 0, .int .i64 (-1), .bool false, .bool false, .int .i64 0, .slice none 0 0] (0, 0) _ rfl BR.out hu26 rfl hi26) rfl ?_
  exact ⟨rfl, HR.out⟩
set_option maxHeartbeats 8000000 in
set_option maxRecDepth 100000 in
theorem tenancyref16_Decode.calls (k : Nat) (s : ByteArray) (m : Ms) (r : Int) (w : World) (h : tenancyref16_Decode.f k s = some (m, r)) :
    Calls Try.prog 18 #[.string s] w fun e w' => ∃ vi vo, e = .returned (.tuple #[.agg (m.row vi vo), .int .i64 r]) ∧ Kd.R k51 51 w' w.heap.size (fun _ => True) vi m.ias ∧ Kd.R k42 42 w' w.heap.size (fun _ => True) vo m.opts ∧ Below w.heap.size w w' := by
  have hu26 := Try.underlying26
  have hu42 := Try.underlying42
  have hi26 : (Try.prog.info? 26).map (·.size) = some 10 := by kernel_rfl
  have hi42 : (Try.prog.info? 42).map (·.size) = some 2 := by kernel_rfl
  unfold tenancyref16_Decode.f at h
  have BA := Aside0.mk (blk_new w (.cells #[.int .i64 0, .int .u32 0, .string (⟨#[]⟩ : ByteArray), .string (⟨#[]⟩ : ByteArray), .slice none 0 0, .int .i64 0, .bool false, .bool false, .int .i64 0, .slice none 0 0] 26))
  have HB := Aside0.mk (below_alloc (Below.refl _ w) (.cells #[.int .i64 0, .int .u32 0, .string (⟨#[]⟩ : ByteArray), .string (⟨#[]⟩ : ByteArray), .slice none 0 0, .int .i64 0, .bool false, .bool false, .int .i64 0, .slice none 0 0] 26))
  go_enter Try.func18, Try.ntmps18
  go_upto_region 1 with fail
  generalize w.alloc (.cells #[.int .i64 0, .int .u32 0, .string (⟨#[]⟩ : ByteArray), .string (⟨#[]⟩ : ByteArray), .slice none 0 0, .int .i64 0, .bool false, .bool false, .int .i64 0, .slice none 0 0] 26) = wa at BA HB ⊢
  obtain ⟨ga, hga⟩ : ∃ ga, ga = w.heap.size := ⟨_, rfl⟩
  have GA : Aside0 (w.heap.size ≤ ga) := ⟨Nat.le_of_eq hga.symm⟩
  rw [← hga] at BA
  have hgz : (Value.pointer (some ⟨w.heap.size, 0, none⟩)) = .pointer (some ⟨ga, 0, none⟩) := by rw [hga]
  rw [hgz]
  clear hgz hga
  by_cases c1 : (s.size : Int) > 65507
  · rw [if_pos c1] at h
    have hmr := Option.some.inj h
    injection hmr with hm1 hr1
    subst hm1 hr1
    have hc : decide ((65507 : Int) < (s.size : Int)) = true := decide_eq_true c1
    go_wp2_with ((with_reducible refine gate_store (p := 2) rfl ?_); refine XBox.storeL_ rfl rfl 26 rfl ga rfl #[.int .i64 0, .int .u32 0, .string (⟨#[]⟩ : ByteArray), .string (⟨#[]⟩ : ByteArray), .slice none 0 0, .int .i64 0, .bool false, .bool false, .int .i64 0, .slice none 0 0] #[.int .i64 0, .int .u32 0, .string (⟨#[]⟩ : ByteArray), .string (⟨#[]⟩ : ByteArray), .slice none 0 0, .int .i64 0, .bool false, .bool false, .int .i64 0, .slice none 0 0] rfl BA.out hi26 (Eq.refl 10) (by simp [Value.oneCell']) ?_; intro wz hw1 hw2 hw3; have BR := Aside0.mk hw1; have HR := Aside0.mk (HB.out.trans (hw2 _ GA.out)); clear hw1 hw2 hw3)
    refine bodyPost_ret (results_ct rfl _ _ ga 26 #[.int .i64 0, .int .u32 0, .string (⟨#[]⟩ : ByteArray), .string (⟨#[]⟩ : ByteArray), .slice none 0 0, .int .i64 0, .bool false, .bool false, .int .i64 0, .slice none 0 0] (0, 0) _ rfl BR.out hu26 rfl (by kernel_rfl)) rfl ?_
    exact ⟨.slice none 0 0, .slice none 0 0, rfl, Kd.R_nil _ _ _ _ _, Kd.R_nil _ _ _ _ _, HR.out⟩
  rw [if_neg c1] at h
  have hc1 : ¬ (65507 : Int) < (s.size : Int) := c1
  by_cases c2 : (s.size : Int) < 4
  · rw [if_pos c2] at h
    have hmr := Option.some.inj h
    injection hmr with hm1 hr1
    subst hm1 hr1
    go_wp2_with ((with_reducible refine gate_store (p := 2) rfl ?_); refine XBox.storeL_ rfl rfl 26 rfl ga rfl #[.int .i64 0, .int .u32 0, .string (⟨#[]⟩ : ByteArray), .string (⟨#[]⟩ : ByteArray), .slice none 0 0, .int .i64 0, .bool false, .bool false, .int .i64 0, .slice none 0 0] #[.int .i64 0, .int .u32 0, .string (⟨#[]⟩ : ByteArray), .string (⟨#[]⟩ : ByteArray), .slice none 0 0, .int .i64 0, .bool false, .bool false, .int .i64 0, .slice none 0 0] rfl BA.out hi26 (Eq.refl 10) (by simp [Value.oneCell']) ?_; intro wz hw1 hw2 hw3; have BR := Aside0.mk hw1; have HR := Aside0.mk (HB.out.trans (hw2 _ GA.out)); clear hw1 hw2 hw3)
    refine bodyPost_ret (results_ct rfl _ _ ga 26 #[.int .i64 0, .int .u32 0, .string (⟨#[]⟩ : ByteArray), .string (⟨#[]⟩ : ByteArray), .slice none 0 0, .int .i64 0, .bool false, .bool false, .int .i64 0, .slice none 0 0] (0, 0) _ rfl BR.out hu26 rfl (by kernel_rfl)) rfl ?_
    exact ⟨.slice none 0 0, .slice none 0 0, rfl, Kd.R_nil _ _ _ _ _, Kd.R_nil _ _ _ _ _, HR.out⟩
  rw [if_neg c2] at h
  have hx0 : ∀ hh : 0 < s.size, ((s[0]'hh).toNat : Int) = bt s 0 := bt_at s 0
  have hs0 : 0 < s.size := by omega
  by_cases c3 : bt s 0 < 1
  · rw [if_pos c3] at h
    have hmr := Option.some.inj h
    injection hmr with hm1 hr1
    subst hm1 hr1
    go_wp2_with ((with_reducible refine gate_store (p := 2) rfl ?_); refine XBox.storeL_ rfl rfl 26 rfl ga rfl #[.int .i64 0, .int .u32 0, .string (⟨#[]⟩ : ByteArray), .string (⟨#[]⟩ : ByteArray), .slice none 0 0, .int .i64 0, .bool false, .bool false, .int .i64 0, .slice none 0 0] #[.int .i64 0, .int .u32 0, .string (⟨#[]⟩ : ByteArray), .string (⟨#[]⟩ : ByteArray), .slice none 0 0, .int .i64 0, .bool false, .bool false, .int .i64 0, .slice none 0 0] rfl BA.out hi26 (Eq.refl 10) (by simp [Value.oneCell']) ?_; intro wz hw1 hw2 hw3; have BR := Aside0.mk hw1; have HR := Aside0.mk (HB.out.trans (hw2 _ GA.out)); clear hw1 hw2 hw3)
    refine bodyPost_ret (results_ct rfl _ _ ga 26 #[.int .i64 0, .int .u32 0, .string (⟨#[]⟩ : ByteArray), .string (⟨#[]⟩ : ByteArray), .slice none 0 0, .int .i64 0, .bool false, .bool false, .int .i64 0, .slice none 0 0] (0, 0) _ rfl BR.out hu26 rfl (by kernel_rfl)) rfl ?_
    exact ⟨.slice none 0 0, .slice none 0 0, rfl, Kd.R_nil _ _ _ _ _, Kd.R_nil _ _ _ _ _, HR.out⟩
  rw [if_neg c3] at h
  by_cases c4 : bt s 0 > 11
  · rw [if_pos c4] at h
    have hmr := Option.some.inj h
    injection hmr with hm1 hr1
    subst hm1 hr1
    have hc4 : (11 : Int) < bt s 0 := c4
    go_wp2_with ((with_reducible refine gate_store (p := 2) rfl ?_); refine XBox.storeL_ rfl rfl 26 rfl ga rfl #[.int .i64 0, .int .u32 0, .string (⟨#[]⟩ : ByteArray), .string (⟨#[]⟩ : ByteArray), .slice none 0 0, .int .i64 0, .bool false, .bool false, .int .i64 0, .slice none 0 0] #[.int .i64 0, .int .u32 0, .string (⟨#[]⟩ : ByteArray), .string (⟨#[]⟩ : ByteArray), .slice none 0 0, .int .i64 0, .bool false, .bool false, .int .i64 0, .slice none 0 0] rfl BA.out hi26 (Eq.refl 10) (by simp [Value.oneCell']) ?_; intro wz hw1 hw2 hw3; have BR := Aside0.mk hw1; have HR := Aside0.mk (HB.out.trans (hw2 _ GA.out)); clear hw1 hw2 hw3)
    refine bodyPost_ret (results_ct rfl _ _ ga 26 #[.int .i64 0, .int .u32 0, .string (⟨#[]⟩ : ByteArray), .string (⟨#[]⟩ : ByteArray), .slice none 0 0, .int .i64 0, .bool false, .bool false, .int .i64 0, .slice none 0 0] (0, 0) _ rfl BR.out hu26 rfl (by kernel_rfl)) rfl ?_
    exact ⟨.slice none 0 0, .slice none 0 0, rfl, Kd.R_nil _ _ _ _ _, Kd.R_nil _ _ _ _ _, HR.out⟩
  rw [if_neg c4] at h
  have hc4 : ¬ (11 : Int) < bt s 0 := c4
  obtain ⟨⟨l, e6⟩, hP, h⟩ := Option.bind_eq_some_iff.1 h
  have HP := Aside0.mk hP
  have h4 : (4 : Int) ≤ (s.size : Int) := by omega
  have h4n : 4 ≤ s.size := by omega
  clear hP
  go_upto_region 8 with (go_at_call 31; refine (tenancyref15_Parse.calls k (s.extract 4 s.size) l e6 _ HP.out).mono ?_; rintro e wf ⟨vl, rfl, hrl, hb⟩; obtain ⟨Al, cl, rfl⟩ := Kd.R_slice hrl; have RL := Aside0.mk hrl; have BAf := Aside0.mk (blk_below BA.out hb); have HBf := Aside0.mk (below_step HB.out hb); have SZF := Aside0.mk hb.size; clear hrl hb)
  have SZf : Aside0 (wa.heap.size ≤ wf.heap.size) := ⟨SZF.out⟩
  have SZa := Aside0.mk (blk_lt BA.out)
  have SZw := Aside0.mk HB.out.size
  clear BA HB h4 h4n
  by_cases c6 : e6 = 0
  case neg =>
    rw [if_neg c6] at h
    have hmr := Option.some.inj h
    injection hmr with hm1 hr1
    subst hm1 hr1
    have c6b : (e6 != 0) = true := by simpa using c6
    go_wp2_with ((with_reducible refine gate_store (p := 2) rfl ?_); refine XBox.storeL_ rfl rfl 26 rfl ga rfl #[.int .i64 0, .int .u32 0, .string (⟨#[]⟩ : ByteArray), .string (⟨#[]⟩ : ByteArray), .slice none 0 0, .int .i64 0, .bool false, .bool false, .int .i64 0, .slice none 0 0] #[.int .i64 0, .int .u32 0, .string (⟨#[]⟩ : ByteArray), .string (⟨#[]⟩ : ByteArray), .slice none 0 0, .int .i64 0, .bool false, .bool false, .int .i64 0, .slice none 0 0] rfl BAf.out hi26 (Eq.refl 10) (by simp [Value.oneCell']) ?_; intro wz hw1 hw2 hw3; have BR := Aside0.mk hw1; have HR := Aside0.mk (HBf.out.trans (hw2 _ GA.out)); clear hw1 hw2 hw3)
    refine bodyPost_ret (results_ct rfl _ _ ga 26 #[.int .i64 0, .int .u32 0, .string (⟨#[]⟩ : ByteArray), .string (⟨#[]⟩ : ByteArray), .slice none 0 0, .int .i64 0, .bool false, .bool false, .int .i64 0, .slice none 0 0] (0, 0) _ rfl BR.out hu26 rfl (by kernel_rfl)) rfl ?_
    exact ⟨.slice none 0 0, .slice none 0 0, rfl, Kd.R_nil _ _ _ _ _, Kd.R_nil _ _ _ _ _, HR.out⟩
  rw [if_pos c6] at h
  subst c6
  obtain ⟨⟨nv, nb⟩, hG, h⟩ := Option.bind_eq_some_iff.1 h
  have HG := Aside0.mk hG
  clear hG
  by_cases c7 : l.length < 1000000 ∧ 0 ≤ nv ∧ nv < 4294967296
  case neg => rw [if_neg c7] at h; cases h
  rw [if_pos c7] at h
  have C7 := Aside0.mk c7
  have H0 := Aside0.mk h
  clear c7 h
  have hq : IntKind.i64.wrap (bt s 0) = bt s 0 := Go.IntWalk.i64_in _ (by omega)
  have hq2 : wrap64 (bt s 0) = bt s 0 := Go.IntWalk.wrap64_in _ (by omega)
  go_upto_region 12 with (first | (go_at_call 32; refine (tenancyref04_Get32.calls k s 0 nv nb _ HG.out).mono ?_; rintro e wg ⟨rfl, hd⟩; have BAg := Aside0.mk (blk_below BAf.out hd.below); have HBg := Aside0.mk (below_step HBf.out hd.below); have RLg := Aside0.mk (Kd.R_below RL.out hd.below); have SZg := Aside0.mk hd.below.size; clear hd) | (go_at_call 12; refine (w6rblank_calls (bt s 0) _).mono ?_; rintro e wh ⟨rfl, hb⟩; have BAh := Aside0.mk (blk_below BAg.out hb); have HBh := Aside0.mk (below_step HBg.out hb); have RLh := Aside0.mk (Kd.R_below RLg.out hb); have SZh := Aside0.mk hb.size; clear hb))
  generalize bt s 0 = ty at H0 c3 c4 hc4 hx0 hq hq2 ⊢
  clear hx0 hq hq2 hs0 c2 c1 hc1 HP HG
  have RLh2 : Aside0 (Kd.R k42 42 wh wa.heap.size (fun q => q < wh.heap.size) (.slice Al l.length cl) l) := ⟨Kd.R_mono (Kd.R_bound RLh.out) (fun q hq => hq.2.2.1)⟩
  have BAi := Aside0.mk (blk_alloc BAh.out (.cells #[.int .i64 ty, .int .u32 0, .string (⟨#[]⟩ : ByteArray), .string (⟨#[]⟩ : ByteArray), .slice none 0 0, .int .i64 (-1), .bool false, .bool false, .int .i64 0, .slice none 0 0] 26))
  have HBi := Aside0.mk (below_alloc HBh.out (.cells #[.int .i64 ty, .int .u32 0, .string (⟨#[]⟩ : ByteArray), .string (⟨#[]⟩ : ByteArray), .slice none 0 0, .int .i64 (-1), .bool false, .bool false, .int .i64 0, .slice none 0 0] 26))
  have RLi := Aside0.mk (Kd.R_alloc RLh2.out (.cells #[.int .i64 ty, .int .u32 0, .string (⟨#[]⟩ : ByteArray), .string (⟨#[]⟩ : ByteArray), .slice none 0 0, .int .i64 (-1), .bool false, .bool false, .int .i64 0, .slice none 0 0] 26))
  have bm := blk_new wh (.cells #[.int .i64 ty, .int .u32 0, .string (⟨#[]⟩ : ByteArray), .string (⟨#[]⟩ : ByteArray), .slice none 0 0, .int .i64 (-1), .bool false, .bool false, .int .i64 0, .slice none 0 0] 26)
  have LM : Aside0 (w.heap.size ≤ wa.heap.size ∧ wa.heap.size ≤ wh.heap.size ∧ ga < wh.heap.size ∧ w.heap.size ≤ wh.heap.size) := ⟨SZw.out, by have := SZf.out; have := SZg.out; have := SZh.out; omega, by have := SZf.out; have := SZg.out; have := SZh.out; have := SZa.out; omega, by have := SZw.out; have := SZf.out; have := SZg.out; have := SZh.out; omega⟩
  have SZi : Aside0 ((wh.alloc (.cells #[.int .i64 ty, .int .u32 0, .string (⟨#[]⟩ : ByteArray), .string (⟨#[]⟩ : ByteArray), .slice none 0 0, .int .i64 (-1), .bool false, .bool false, .int .i64 0, .slice none 0 0] 26)).heap.size = wh.heap.size + 1) := ⟨World.size_alloc _ _⟩
  clear BAh HBh RLh RLh2 BAg HBg RLg BAf HBf RL SZf SZg SZh SZa SZw
  generalize wa.heap.size = b0 at RLi LM
  generalize wh.alloc (.cells #[.int .i64 ty, .int .u32 0, .string (⟨#[]⟩ : ByteArray), .string (⟨#[]⟩ : ByteArray), .slice none 0 0, .int .i64 (-1), .bool false, .bool false, .int .i64 0, .slice none 0 0] 26) = wi at BAi HBi RLi bm SZi ⊢
  generalize wh.heap.size = gm at RLi bm LM SZi ⊢
  have hm1 : World.cell? wi ⟨gm, 1, none⟩ = some (.int .u32 0) := (blk_cell bm 1).trans rfl
  have hf1 := blk_frozen bm 1
  have hrm := Int.tmod_eq_emod_of_nonneg (b := 16777216) C7.out.2.1
  go_upto_region 13 with fail
  clear hrm
  have BAj := Aside0.mk (blk_put_ne BAi.out (show ga ≠ gm by have := LM.out; omega) 1 (.int .u32 (nv % 16777216)))
  have HBj := Aside0.mk (HBi.out.setCell (p := ⟨gm, 1, none⟩) LM.out.2.2.2 (.int .u32 (nv % 16777216)))
  have bmj : (wi.setCell ⟨gm, 1, none⟩ (.int .u32 (nv % 16777216))).heap[gm]? = some (.cells #[.int .i64 ty, .int .u32 (nv % 16777216), .string (⟨#[]⟩ : ByteArray), .string (⟨#[]⟩ : ByteArray), .slice none 0 0, .int .i64 (-1), .bool false, .bool false, .int .i64 0, .slice none 0 0] 26 (0, 0)) := blk_put bm 1 _ rfl
  have RLj := Aside0.mk (Kd.R_mono (Kd.R_set RLi.out bm (by decide) 1 (.int .u32 (nv % 16777216))) (ok' := fun q => q < gm + 1 ∧ q ≠ gm) (fun q hq => ⟨by omega, by omega⟩))
  have SZj : Aside0 ((wi.setCell ⟨gm, 1, none⟩ (.int .u32 (nv % 16777216))).heap.size = gm + 1) := ⟨by rw [World.size_setCell]; exact SZi.out⟩
  clear hm1 hf1 bm BAi HBi RLi SZi
  generalize wi.setCell ⟨gm, 1, none⟩ (.int .u32 (nv % 16777216)) = wl at BAj HBj bmj RLj SZj ⊢
  have BMj := Aside0.mk bmj
  clear bmj c3 c4 hc4
  go_upto_region 14 with fail
  go_loopg [9, 10, 11, 12] l.length (fun gg s9 _ _ _ wr => ∃ (kk : Nat) (m1 : Ms) (vi vo : Value), Aside0 (kk ≤ l.length ∧ l.length - kk ≤ gg) ∧ s9 = .int .i64 kk ∧ Aside0 (wr.heap[gm]? = some (.cells (m1.row vi vo) 26 (0, 0))) ∧ Aside0 (Kd.R k51 51 wr (gm + 1) (fun q => gm + 1 ≤ q) vi m1.ias) ∧ Aside0 (Kd.R k42 42 wr (gm + 1) (fun q => gm + 1 ≤ q) vo m1.opts) ∧ Aside0 (wr.heap[ga]? = some (.cells #[.int .i64 0, .int .u32 0, .string (⟨#[]⟩ : ByteArray), .string (⟨#[]⟩ : ByteArray), .slice none 0 0, .int .i64 0, .bool false, .bool false, .int .i64 0, .slice none 0 0] 26 (0, 0))) ∧ Aside0 (Below w.heap.size w wr) ∧ Aside0 (gm + 1 ≤ wr.heap.size) ∧ Aside0 (Kd.R k42 42 wr b0 (fun q => q < gm + 1 ∧ q ≠ gm) (.slice Al l.length cl) l) ∧ Aside0 (w6rrun k l (l.drop kk) kk m1 = some (m, r)))
  case atStart => exact ⟨0, w6rnew ty nv, .slice none 0 0, .slice none 0 0, ⟨by omega⟩, rfl, BMj, ⟨Kd.R_nil _ _ _ _ _⟩, ⟨Kd.R_nil _ _ _ _ _⟩, BAj, HBj, ⟨Nat.le_of_eq SZj.out.symm⟩, RLj, by rw [List.drop_zero]; exact H0⟩
  case round =>
    clear BMj BAj HBj RLj SZj H0
    obtain ⟨kk, m1, vi, vo, HK, rfl, BM, RI, RO, BA, HB, SZ, LR, H⟩ := hrel
    by_cases hlt : kk < l.length
    · have hltz : (kk : Int) < (l.length : Int) := by omega
      have HLT := Aside0.mk hlt
      obtain ⟨_, _, hC⟩ := Kd.R_reads' LR.out
      obtain ⟨ad, hA, hx0, hx1⟩ := at_T42 hC (kk : Int) (by omega) (by omega)
      simp only [Int.toNat_natCast] at hx0 hx1
      have hd : l.drop kk = (rd_T42 l (kk : Int)) :: l.drop (kk + 1) := by
        rw [List.drop_eq_getElem_cons hlt]
        simp [rd_T42, List.getD_eq_getElem?_getD, List.getElem?_eq_getElem hlt]
      have h := H.out
      rw [hd] at h
      obtain ⟨x, hx⟩ : ∃ x, x = rd_T42 l (kk : Int) := ⟨_, rfl⟩
      rw [← hx] at h hx0 hx1
      rw [w6rrun] at h
      have HX := Aside0.mk hx
      clear hd hx H hC hlt
      by_cases cx : x.f1.size ≤ 9223372036854775807
      case neg => rw [if_neg cx] at h; cases h
      rw [if_pos cx] at h
      obtain ⟨t, htw, h⟩ := Option.bind_eq_some_iff.1 h
      have CX := Aside0.mk cx
      have HTW := Aside0.mk htw
      have H := Aside0.mk h
      clear cx htw h
      subst hA
      go_upto_region 17 with fail
      clear hx0 hx1 hltz
      go_cut [82] (fun v82 wc => v82 = .bool t ∧ Aside0 (Below wr.heap.size wr wc))
      case first =>
        have htw := HTW.out
        unfold w6rtw at htw
        obtain ⟨b, ho, htw⟩ := Option.bind_eq_some_iff.1 htw
        have HO := Aside0.mk ho
        obtain ⟨_, hcc, hC⟩ := Kd.R_reads' LR.out
        have HCL := Aside0.mk hC
        have HCC := Aside0.mk hcc
        clear ho hC hcc
        cases b with
        | false =>
          rw [if_neg (fun e => by cases e.1)] at htw
          obtain rfl : false = t := Option.some.inj htw
          clear htw
          go_wp2_with (go_at_call 28; refine (tenancyref16_own.calls x.f0 false _ HO.out).mono ?_; rintro e wo ⟨rfl, hd⟩; have BO := Aside0.mk hd.below; clear hd)
          go_meet
          case rel => exact ⟨rfl, BO⟩
        | true =>
          by_cases d3 : x.f0 = 3
          · rw [if_neg (fun e => e.2.1 d3)] at htw
            obtain rfl : false = t := Option.some.inj htw
            clear htw
            have dn3 : (x.f0 != 3) = false := by rw [d3]; rfl
            clear d3
            go_wp2_with (go_at_call 28; refine (tenancyref16_own.calls x.f0 true _ HO.out).mono ?_; rintro e wo ⟨rfl, hd⟩; have BO := Aside0.mk hd.below; clear hd)
            go_meet
            case rel => exact ⟨rfl, BO⟩
          have dn3 : (x.f0 != 3) = true := by simpa using d3
          by_cases d4 : x.f0 = 4
          · rw [if_neg (fun e => e.2.2.1 d4)] at htw
            obtain rfl : false = t := Option.some.inj htw
            clear htw
            have dn4 : (x.f0 != 4) = false := by rw [d4]; rfl
            clear d4
            go_wp2_with (go_at_call 28; refine (tenancyref16_own.calls x.f0 true _ HO.out).mono ?_; rintro e wo ⟨rfl, hd⟩; have BO := Aside0.mk hd.below; clear hd)
            go_meet
            case rel => exact ⟨rfl, BO⟩
          have dn4 : (x.f0 != 4) = true := by simpa using d4
          by_cases d25 : x.f0 = 25
          · rw [if_neg (fun e => e.2.2.2 d25)] at htw
            obtain rfl : false = t := Option.some.inj htw
            clear htw
            have dn25 : (x.f0 != 25) = false := by rw [d25]; rfl
            clear d25
            go_wp2_with (go_at_call 28; refine (tenancyref16_own.calls x.f0 true _ HO.out).mono ?_; rintro e wo ⟨rfl, hd⟩; have BO := Aside0.mk hd.below; clear hd)
            go_meet
            case rel => exact ⟨rfl, BO⟩
          have dn25 : (x.f0 != 25) = true := by simpa using d25
          rw [if_pos ⟨rfl, d3, d4, d25⟩] at htw
          have HME := Aside0.mk htw
          clear htw
          go_wp2_with (first | (go_at_call 28; refine (tenancyref16_own.calls x.f0 true _ HO.out).mono ?_; rintro e wo ⟨rfl, hd⟩; have BO := Aside0.mk hd.below; clear hd) | (go_at_call 33; refine (tenancyref16_met.calls k (some ad) cl l (kk : Int) x.f0 t _ (Kd.C_below HCL.out BO.out) HCC.out HME.out).mono ?_; rintro e wm ⟨rfl, hd⟩; have BM2 := Aside0.mk (below_step BO.out hd.below); clear hd))
          go_meet
          case rel => exact ⟨rfl, BM2⟩
      case rest =>
        obtain ⟨rfl, HC⟩ := hcut
        have BMc := Aside0.mk (blk_below BM.out HC.out)
        have BAc := Aside0.mk (blk_below BA.out HC.out)
        have RIc := Aside0.mk (Kd.R_below RI.out HC.out)
        have ROc := Aside0.mk (Kd.R_below RO.out HC.out)
        have LRc := Aside0.mk (Kd.R_below LR.out HC.out)
        have HBc := Aside0.mk (below_step HB.out HC.out)
        have SZc := Aside0.mk (Nat.le_trans SZ.out HC.out.size)
        clear BM BA RI RO LR HB SZ HC HTW
        have h := H.out
        clear H
        cases t with
        | true =>
          rw [if_pos rfl] at h
          have hmr := Option.some.inj h
          injection hmr with hm1 hr1
          subst hm1 hr1
          clear h
          go_wp2_with ((with_reducible refine gate_store (p := 2) rfl ?_); refine XBox.storeL_ rfl rfl 26 rfl ga rfl #[.int .i64 0, .int .u32 0, .string (⟨#[]⟩ : ByteArray), .string (⟨#[]⟩ : ByteArray), .slice none 0 0, .int .i64 0, .bool false, .bool false, .int .i64 0, .slice none 0 0] #[.int .i64 0, .int .u32 0, .string (⟨#[]⟩ : ByteArray), .string (⟨#[]⟩ : ByteArray), .slice none 0 0, .int .i64 0, .bool false, .bool false, .int .i64 0, .slice none 0 0] rfl BAc.out hi26 (Eq.refl 10) (by simp [Value.oneCell']) ?_; intro wz hw1 hw2 hw3; have BR := Aside0.mk hw1; have HR := Aside0.mk (HBc.out.trans (hw2 _ GA.out)); clear hw1 hw2 hw3)
          refine bodyPost_ret (results_ct rfl _ _ ga 26 #[.int .i64 0, .int .u32 0, .string (⟨#[]⟩ : ByteArray), .string (⟨#[]⟩ : ByteArray), .slice none 0 0, .int .i64 0, .bool false, .bool false, .int .i64 0, .slice none 0 0] (0, 0) _ rfl BR.out hu26 rfl (by kernel_rfl)) rfl ?_
          exact ⟨.slice none 0 0, .slice none 0 0, rfl, Kd.R_nil _ _ _ _ _, Kd.R_nil _ _ _ _ _, HR.out⟩
        | false =>
          rw [if_neg (by decide)] at h
          obtain ⟨⟨m2, rr⟩, hone, h⟩ := Option.bind_eq_some_iff.1 h
          have H := Aside0.mk h
          have HONE := Aside0.mk hone
          clear h hone
          go_upto_region 19 with fail
          refine w6oneReg _ rfl _ _ _ _ (by kernel_rfl) k gm (gm + 1) b0 m1 m2 x vi vo ad cl kk l rr rfl rfl rfl HX.out HLT.out C7.out.1 CX.out (Nat.lt_succ_self gm) SZc.out BMc.out LRc.out RIc.out ROc.out HONE.out ?_
          intro u W3 g vi2 vo2 hu hg hgb hrr hob
          have BG := Aside0.mk hgb
          have RI3 := Aside0.mk hrr.1
          have RO3 := Aside0.mk hrr.2
          have OB := Aside0.mk hob
          have BA3 : Aside0 (W3.heap[ga]? = some (.cells #[.int .i64 0, .int .u32 0, .string (⟨#[]⟩ : ByteArray), .string (⟨#[]⟩ : ByteArray), .slice none 0 0, .int .i64 0, .bool false, .bool false, .int .i64 0, .slice none 0 0] 26 (0, 0))) := ⟨(hob.bel.block ga (by have := LM.out; omega)).trans BAc.out⟩
          have HB3 := Aside0.mk (HBc.out.trans (hob.bel.mono (by have := LM.out; omega)))
          have SZ3 : Aside0 (gm + 1 ≤ W3.heap.size) := ⟨Nat.le_trans SZc.out hob.sz⟩
          have GG : Aside0 (gm + 1 ≤ g) := ⟨Nat.le_trans SZc.out hg⟩
          clear hgb hrr hob hg BMc BAc RIc ROc LRc HBc SZc
          simp only [XReg.fills, List.foldl_cons, List.foldl_nil, Act.put, List.setIfInBounds_toArray, List.set_cons_zero, List.set_cons_succ]
          rw [hu]
          by_cases c8 : rr = 0
          case neg =>
            have h := H.out
            rw [if_neg c8] at h
            have hmr := Option.some.inj h
            injection hmr with hm1 hr1
            subst hm1 hr1
            clear h
            have c8b : (rr != 0) = true := by simpa using c8
            go_wp2_with ((with_reducible refine gate_store (p := 2) rfl ?_); refine XBox.storeL_ rfl rfl 26 rfl ga rfl #[.int .i64 0, .int .u32 0, .string (⟨#[]⟩ : ByteArray), .string (⟨#[]⟩ : ByteArray), .slice none 0 0, .int .i64 0, .bool false, .bool false, .int .i64 0, .slice none 0 0] #[.int .i64 0, .int .u32 0, .string (⟨#[]⟩ : ByteArray), .string (⟨#[]⟩ : ByteArray), .slice none 0 0, .int .i64 0, .bool false, .bool false, .int .i64 0, .slice none 0 0] rfl BA3.out hi26 (Eq.refl 10) (by simp [Value.oneCell']) ?_; intro wz hw1 hw2 hw3; have BR := Aside0.mk hw1; have HR := Aside0.mk (HB3.out.trans (hw2 _ GA.out)); clear hw1 hw2 hw3)
            refine bodyPost_ret (results_ct rfl _ _ ga 26 #[.int .i64 0, .int .u32 0, .string (⟨#[]⟩ : ByteArray), .string (⟨#[]⟩ : ByteArray), .slice none 0 0, .int .i64 0, .bool false, .bool false, .int .i64 0, .slice none 0 0] (0, 0) _ rfl BR.out hu26 rfl (by kernel_rfl)) rfl ?_
            exact ⟨.slice none 0 0, .slice none 0 0, rfl, Kd.R_nil _ _ _ _ _, Kd.R_nil _ _ _ _ _, HR.out⟩
          have H2 : Aside0 (w6rrun k l (l.drop (kk + 1)) (kk + 1) m2 = some (m, r)) := ⟨by have h := H.out; rw [if_pos c8] at h; exact h⟩
          subst c8
          clear H hu
          go_upto_region 15 with (first | ((with_reducible refine gate_dst (N := 97) rfl ?_); refine XBox.loadL_ 97 rfl rfl 26 rfl g rfl (m2.row vi2 vo2) BG.out hu26 rfl hi26 ?_; simp only [Act.put, List.setIfInBounds_toArray, List.set_cons_zero, List.set_cons_succ]) | ((with_reducible refine gate_store (p := 8) rfl ?_); refine XBox.storeL_ rfl rfl 26 rfl gm rfl (m1.row vi vo) (m2.row vi2 vo2) rfl OB.out.row hi26 (Eq.refl 10) (by obtain ⟨_, _, rfl⟩ := Kd.R_slice RI3.out; obtain ⟨_, _, rfl⟩ := Kd.R_slice RO3.out; simp [Ms.row, Value.oneCell']) ?_; intro wz hw1 hw2 hw3; have BMz := Aside0.mk hw1; have HBz := Aside0.mk (HB3.out.trans (hw2 _ (by have := LM.out; omega))); have RIz := Aside0.mk (R_box RI3.out OB.out.row (by decide) hw3); have ROz := Aside0.mk (R_box RO3.out OB.out.row (by decide) hw3); have BAz := Aside0.mk ((hw3 ga (by have := LM.out; omega)).trans BA3.out); have LRz := Aside0.mk (Kd.R_step OB.out.lst (fun q hq _ => hw3 q hq.2)); have SZz := Aside0.mk (Nat.le_trans SZ3.out (hw2 0 (Nat.zero_le _)).size); clear hw1 hw2 hw3))
          clear BG RI3 RO3 OB BA3 HB3 SZ3
          go_wp2
          go_roundg (l.length - (kk + 1))
          case measure => have := HK.out; have := HLT.out; omega
          case rel => exact ⟨kk + 1, m2, vi2, vo2, ⟨by have := HLT.out; omega⟩, by first | rfl | (rw [Go.IntWalk.wrap64_in _ (by have := HLT.out; have := C7.out; omega)]; rfl), BMz, RIz, ROz, BAz, HBz, SZz, LRz, H2⟩
    · obtain rfl : kk = l.length := by have := HK.out; omega
      have hltz : ¬ (l.length : Int) < (l.length : Int) := by omega
      have h := H.out
      rw [List.drop_length] at h
      have hmr := Option.some.inj (show some (m1, (0 : Int)) = some (m, r) from h)
      injection hmr with hm1 hr1
      subst hm1 hr1
      clear h H LR HK
      go_wp2_with (first | ((with_reducible refine gate_dst (N := 98) rfl ?_); refine XBox.loadL_ 98 rfl rfl 26 rfl gm rfl (m1.row vi vo) BM.out hu26 rfl hi26 ?_; simp only [Act.put, List.setIfInBounds_toArray, List.set_cons_zero, List.set_cons_succ]) | ((with_reducible refine gate_store (p := 2) rfl ?_); refine XBox.storeL_ rfl rfl 26 rfl ga rfl #[.int .i64 0, .int .u32 0, .string (⟨#[]⟩ : ByteArray), .string (⟨#[]⟩ : ByteArray), .slice none 0 0, .int .i64 0, .bool false, .bool false, .int .i64 0, .slice none 0 0] (m1.row vi vo) rfl BA.out hi26 (Eq.refl 10) (by obtain ⟨_, _, rfl⟩ := Kd.R_slice RI.out; obtain ⟨_, _, rfl⟩ := Kd.R_slice RO.out; simp [Ms.row, Value.oneCell']) ?_; intro wz hw1 hw2 hw3; have BR := Aside0.mk hw1; have HR := Aside0.mk (HB.out.trans (hw2 _ GA.out)); have RIz := Aside0.mk (R_box RI.out BA.out (by decide) hw3); have ROz := Aside0.mk (R_box RO.out BA.out (by decide) hw3); clear hw1 hw2 hw3))
      refine bodyPost_ret (results_ct rfl _ _ ga 26 (m1.row vi vo) (0, 0) _ rfl BR.out hu26 rfl (by kernel_rfl)) rfl ?_
      exact ⟨vi, vo, rfl, Kd.R_lower (Kd.R_mono RIz.out (fun _ _ => trivial)) (by have := LM.out; omega), Kd.R_lower (Kd.R_mono ROz.out (fun _ _ => trivial)) (by have := LM.out; omega), HR.out⟩

end Go.Proofs.Ythadapbekmmgpaa.X
