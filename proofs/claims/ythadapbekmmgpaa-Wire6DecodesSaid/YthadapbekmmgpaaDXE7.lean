/- no condition. -/
import Derived.Test.YthadapbekmmgpaaDX0
import Derived.Test.YthadapbekmmgpaaDX9
import Derived.Test.YthadapbekmmgpaaDXCv
import Derived.Test.YthadapbekmmgpaaDXE3
import Derived.Test.YthadapbekmmgpaaDXE4
import Derived.Test.YthadapbekmmgpaaDXIn
import Derived.Test.YthadapbekmmgpaaDXOrow
import Derived.Test.YthadapbekmmgpaaDXReg
import Derived.Test.YthadapbekmmgpaaDXRegF
import Derived.Test.YthadapbekmmgpaaDXRegP
import Derived.Outline
import Derived.Lib.Hide
import Derived.Laws.IdiomCopy
import Derived.Lib.SliceRun
import Derived.WalkSpells
namespace Go.Proofs.Ythadapbekmmgpaa.X
open Go.RowKit Go.Proofs.YthadapbekmmgpaaW.PrintWords Go.Proofs.YthadapbekmmgpaaW.PrintLast Go.Proofs.YthadapbekmmgpaaW.PrintMore
set_option linter.unusedVariables false
set_option linter.unusedSimpArgs false
def tenancylaw16_awake.f (k : Nat) : Option Bool :=
  (wire6_Encode.f k 1 66051 (⟨#[97, 98]⟩ : ByteArray) (⟨#[]⟩ : ByteArray) [] (-1) false false 0 []).bind fun en => (wire6_Sound.f k 1 66051 (⟨#[97, 98]⟩ : ByteArray) (⟨#[]⟩ : ByteArray) [] (-1) false false 0 []).bind fun so =>
  (wire6_Decode.f k (⟨#[1, 1, 2, 3, 0, 1, 0, 2, 97, 98, 0, 14, 0, 0]⟩ : ByteArray)).bind fun n => (wire6_Decode.f k (⟨#[12, 0, 0, 0]⟩ : ByteArray)).bind fun g =>
  if en.1 = (⟨#[1, 1, 2, 3, 0, 1, 0, 2, 97, 98]⟩ : ByteArray) ∧ en.2 = 0 ∧ so = true ∧ n.2 = 0 ∧ n.1.rap = true ∧ n.1.cl = (⟨#[97, 98]⟩ : ByteArray) ∧ n.1.xid = 66051 ∧ n.1.code = -1 ∧ g.2 = 141 then some true else none
set_option maxHeartbeats 8000000 in
set_option maxRecDepth 100000 in
theorem tenancylaw16_awake.calls (k : Nat) (r : Bool) (w : World) (h : tenancylaw16_awake.f k = some r) :
    Calls Try.prog 9 #[] w fun e w' => e = .returned (.bool r) ∧ Below w.heap.size w w' := by
  have hu26 := Try.underlying26
  have hi26 : (Try.prog.info? 26).map (·.size) = some 10 := by kernel_rfl
  unfold tenancylaw16_awake.f at h
  obtain ⟨⟨es, ee⟩, hen, h⟩ := Option.bind_eq_some_iff.1 h
  obtain ⟨so, hso, h⟩ := Option.bind_eq_some_iff.1 h
  obtain ⟨⟨n, ne⟩, hn, h⟩ := Option.bind_eq_some_iff.1 h
  obtain ⟨⟨g, ge⟩, hg, h⟩ := Option.bind_eq_some_iff.1 h
  dsimp only at h
  by_cases c1 : es = (⟨#[1, 1, 2, 3, 0, 1, 0, 2, 97, 98]⟩ : ByteArray) ∧ ee = 0 ∧ so = true ∧ ne = 0 ∧ n.rap = true ∧ n.cl = (⟨#[97, 98]⟩ : ByteArray) ∧ n.xid = 66051 ∧ n.code = -1 ∧ ge = 141
  case neg => rw [if_neg c1] at h; cases h
  rw [if_pos c1] at h
  obtain rfl := Option.some.inj h
  obtain ⟨rfl, rfl, rfl, rfl, e1, e2, e3, e4, rfl⟩ := c1
  clear h
  obtain ⟨n0, n1, n2, n3, n4, n5, n6, n7, n8, n9⟩ := n
  dsimp only at e1 e2 e3 e4
  subst e1 e2 e3 e4
  have HEN := Aside0.mk hen
  have HSO := Aside0.mk hso
  have HN := Aside0.mk hn
  have HG := Aside0.mk hg
  have HW := Aside0.mk (Below.refl w.heap.size w)
  clear hen hso hn hg
  have K1 : ∀ W : World, Kd.C k51 W none 0 [] := fun W => Kd.C_nil _ W
  have K2 : ∀ W : World, Kd.C k42 W none 0 [] := fun W => Kd.C_nil _ W
  have HK1 := Aside0.mk K1
  have HK2 := Aside0.mk K2
  clear K1 K2
  go_enter Try.func9, Try.ntmps9
  go_upto_region 2 with (go_at_call 11; refine (w6blank_calls 1 _).mono ?_; rintro e wa ⟨rfl, hb⟩; have HBa := Aside0.mk hb; clear hb)
  have BM0 := Aside0.mk (blk_new wa (.cells #[.int .i64 1, .int .u32 0, .string (⟨#[]⟩ : ByteArray), .string (⟨#[]⟩ : ByteArray), .slice none 0 0, .int .i64 (-1), .bool false, .bool false, .int .i64 0, .slice none 0 0] 26))
  have HB0 := Aside0.mk (below_alloc HBa.out (.cells #[.int .i64 1, .int .u32 0, .string (⟨#[]⟩ : ByteArray), .string (⟨#[]⟩ : ByteArray), .slice none 0 0, .int .i64 (-1), .bool false, .bool false, .int .i64 0, .slice none 0 0] 26))
  have GM := Aside0.mk HBa.out.size
  generalize wa.alloc (.cells #[.int .i64 1, .int .u32 0, .string (⟨#[]⟩ : ByteArray), .string (⟨#[]⟩ : ByteArray), .slice none 0 0, .int .i64 (-1), .bool false, .bool false, .int .i64 0, .slice none 0 0] 26) = w1 at BM0 HB0 ⊢
  generalize wa.heap.size = gm at BM0 GM ⊢
  have hc1 : w1.cell? ⟨gm, 1, none⟩ = some (.int .u32 0) := (blk_cell BM0.out 1).trans rfl
  have hf1 := blk_frozen BM0.out 1
  go_upto_region 3 with fail
  have BM1 := Aside0.mk (blk_put BM0.out 1 (.int .u32 66051) (cs' := #[.int .i64 1, .int .u32 66051, .string (⟨#[]⟩ : ByteArray), .string (⟨#[]⟩ : ByteArray), .slice none 0 0, .int .i64 (-1), .bool false, .bool false, .int .i64 0, .slice none 0 0]) rfl)
  have HB1 := Aside0.mk (show Below w.heap.size w (w1.setCell ⟨gm, 1, none⟩ (.int .u32 66051)) from below_set HB0.out GM.out)
  clear BM0 HB0 hc1 hf1
  generalize w1.setCell ⟨gm, 1, none⟩ (.int .u32 66051) = w2 at BM1 HB1 ⊢
  have hc2 : w2.cell? ⟨gm, 2, none⟩ = some (.string (⟨#[]⟩ : ByteArray)) := (blk_cell BM1.out 2).trans rfl
  have hf2 := blk_frozen BM1.out 2
  go_upto_region 4 with fail
  have BM2 := Aside0.mk (blk_put BM1.out 2 (.string (⟨#[97, 98]⟩ : ByteArray)) (cs' := #[.int .i64 1, .int .u32 66051, .string (⟨#[97, 98]⟩ : ByteArray), .string (⟨#[]⟩ : ByteArray), .slice none 0 0, .int .i64 (-1), .bool false, .bool false, .int .i64 0, .slice none 0 0]) rfl)
  have HB2 := Aside0.mk (show Below w.heap.size w (w2.setCell ⟨gm, 2, none⟩ (.string (⟨#[97, 98]⟩ : ByteArray))) from below_set HB1.out GM.out)
  clear BM1 HB1 hc2 hf2
  generalize w2.setCell ⟨gm, 2, none⟩ (.string (⟨#[97, 98]⟩ : ByteArray)) = w3 at BM2 HB2 ⊢
  go_upto_region 5 with (first | ((with_reducible refine gate_dst (N := 12) rfl ?_); refine XBox.loadL_ 12 rfl rfl 26 rfl gm rfl #[.int .i64 1, .int .u32 66051, .string (⟨#[97, 98]⟩ : ByteArray), .string (⟨#[]⟩ : ByteArray), .slice none 0 0, .int .i64 (-1), .bool false, .bool false, .int .i64 0, .slice none 0 0] BM2.out hu26 rfl hi26 ?_; simp only [Act.put, List.setIfInBounds_toArray, List.set_cons_zero, List.set_cons_succ]) | (go_at_call 13; refine (wire6_Encode.calls k 1 66051 (⟨#[97, 98]⟩ : ByteArray) (⟨#[]⟩ : ByteArray) none 0 [] (-1) false false 0 none 0 [] _ _ _ (HK1.out _) (Nat.le_refl 0) (HK2.out _) (Nat.le_refl 0) HEN.out).mono ?_; rintro e we ⟨rfl, hb⟩; have BM3 := Aside0.mk (blk_below BM2.out hb); have HB3 := Aside0.mk (below_step HB2.out hb); clear hb BM2 HB2))
  go_upto_region 6 with (go_at_call 17; refine (wire6_Decode.calls k _ _ _ _ HN.out).mono ?_; rintro e wn ⟨vi, vo, rfl, RI, RO, hb⟩; obtain ⟨Ai, ci, rfl⟩ := Kd.R_slice RI; obtain ⟨Ao, co, rfl⟩ := Kd.R_slice RO; clear RI RO; dsimp only [Ms.row]; have BM4 := Aside0.mk (blk_below BM3.out hb); have HB4 := Aside0.mk (below_step HB3.out hb); clear hb BM3 HB3)
  have BN0 := Aside0.mk (blk_new wn (.cells #[.int .i64 n0, .int .u32 66051, .string (⟨#[97, 98]⟩ : ByteArray), .string n3, .slice Ai n4.length ci, .int .i64 (-1), .bool true, .bool n7, .int .i64 n8, .slice Ao n9.length co] 26))
  have BM5 := Aside0.mk (blk_alloc BM4.out (.cells #[.int .i64 n0, .int .u32 66051, .string (⟨#[97, 98]⟩ : ByteArray), .string n3, .slice Ai n4.length ci, .int .i64 (-1), .bool true, .bool n7, .int .i64 n8, .slice Ao n9.length co] 26))
  have HB5 := Aside0.mk (below_alloc HB4.out (.cells #[.int .i64 n0, .int .u32 66051, .string (⟨#[97, 98]⟩ : ByteArray), .string n3, .slice Ai n4.length ci, .int .i64 (-1), .bool true, .bool n7, .int .i64 n8, .slice Ao n9.length co] 26))
  clear BM4 HB4
  generalize wn.alloc (.cells #[.int .i64 n0, .int .u32 66051, .string (⟨#[97, 98]⟩ : ByteArray), .string n3, .slice Ai n4.length ci, .int .i64 (-1), .bool true, .bool n7, .int .i64 n8, .slice Ao n9.length co] 26) = w5 at BN0 BM5 HB5 ⊢
  generalize wn.heap.size = gn at BN0 ⊢
  go_upto_region 7 with (go_at_call 17; refine (wire6_Decode.calls k _ _ _ _ HG.out).mono ?_; rintro e wg ⟨vi, vo, rfl, RI, RO, hb⟩; obtain ⟨Aj, cj, rfl⟩ := Kd.R_slice RI; obtain ⟨Ap, cp, rfl⟩ := Kd.R_slice RO; clear RI RO; dsimp only [Ms.row]; have BN1 := Aside0.mk (blk_below BN0.out hb); have BM6 := Aside0.mk (blk_below BM5.out hb); have HB6 := Aside0.mk (below_step HB5.out hb); clear hb BM5 HB5 BN0)
  have BN2 := Aside0.mk (blk_alloc BN1.out (.cells #[.int .i64 g.ty, .int .u32 g.xid, .string g.cl, .string g.sv, .slice Aj g.ias.length cj, .int .i64 g.code, .bool g.rap, .bool g.acc, .int .i64 g.again, .slice Ap g.opts.length cp] 26))
  have BM7 := Aside0.mk (blk_alloc BM6.out (.cells #[.int .i64 g.ty, .int .u32 g.xid, .string g.cl, .string g.sv, .slice Aj g.ias.length cj, .int .i64 g.code, .bool g.rap, .bool g.acc, .int .i64 g.again, .slice Ap g.opts.length cp] 26))
  have HB7 := Aside0.mk (below_alloc HB6.out (.cells #[.int .i64 g.ty, .int .u32 g.xid, .string g.cl, .string g.sv, .slice Aj g.ias.length cj, .int .i64 g.code, .bool g.rap, .bool g.acc, .int .i64 g.again, .slice Ap g.opts.length cp] 26))
  clear BM6 HB6 BN1
  generalize wg.alloc (.cells #[.int .i64 g.ty, .int .u32 g.xid, .string g.cl, .string g.sv, .slice Aj g.ias.length cj, .int .i64 g.code, .bool g.rap, .bool g.acc, .int .i64 g.again, .slice Ap g.opts.length cp] 26) = w7 at BN2 BM7 HB7 ⊢
  generalize wg.heap.size = gg
  go_wp2_with (first | ((with_reducible refine gate_dst (N := 24) rfl ?_); refine XBox.loadL_ 24 rfl rfl 26 rfl gm rfl #[.int .i64 1, .int .u32 66051, .string (⟨#[97, 98]⟩ : ByteArray), .string (⟨#[]⟩ : ByteArray), .slice none 0 0, .int .i64 (-1), .bool false, .bool false, .int .i64 0, .slice none 0 0] BM7.out hu26 rfl hi26 ?_; simp only [Act.put, List.setIfInBounds_toArray, List.set_cons_zero, List.set_cons_succ]) | (go_at_call 15; refine (wire6_Sound.calls k 1 66051 (⟨#[97, 98]⟩ : ByteArray) (⟨#[]⟩ : ByteArray) none 0 [] (-1) false false 0 none 0 [] _ _ (HK1.out _) (Nat.le_refl 0) (HK2.out _) (Nat.le_refl 0) HSO.out).mono ?_; rintro e wz ⟨rfl, hb⟩; have hn6 : wz.cell? ⟨gn, 6, none⟩ = some (.bool true) := (blk_cell (blk_below BN2.out hb) 6).trans rfl; have hn2 : wz.cell? ⟨gn, 2, none⟩ = some (.string (⟨#[97, 98]⟩ : ByteArray)) := (blk_cell (blk_below BN2.out hb) 2).trans rfl; have hn1 : wz.cell? ⟨gn, 1, none⟩ = some (.int .u32 66051) := (blk_cell (blk_below BN2.out hb) 1).trans rfl; have hn5 : wz.cell? ⟨gn, 5, none⟩ = some (.int .i64 (-1)) := (blk_cell (blk_below BN2.out hb) 5).trans rfl; have HB8 := Aside0.mk (below_step HB7.out hb); clear hb BN2 BM7 HB7))
  go_ret
  exact ⟨rfl, by first | exact HB8.out | exact below_drew1 HB8.out | exact pw_below_drewN HB8.out _⟩
theorem tenancylaw16_awake.yes : tenancylaw16_awake.f 30 = some true := by kernel_rfl

end Go.Proofs.Ythadapbekmmgpaa.X
