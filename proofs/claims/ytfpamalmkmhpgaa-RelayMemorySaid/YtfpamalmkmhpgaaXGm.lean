/- The law RelayMemory walked: that the call returns true: the conditions stand in the statements. By hand. -/
import Derived.Test.YtfpamalmkmhpgaaG3
namespace Go.Proofs.Ytfpamalmkmhpgaa.X
open Go Go.RowKit Go.Proofs.YtfpamalmkmhpgaaW.PrintWords Go.Proofs.YtfpamalmkmhpgaaW.PrintLast Go.Proofs.YtfpamalmkmhpgaaW.PrintMore
set_option linter.unusedVariables false
set_option linter.unusedSimpArgs false
theorem info39m : (Try.prog.info? 39).map (fun i => (i.zero, i.size, i.bytes)) = some (some (.agg #[.int .i64 0, .int .u64 0, .int .u64 0, .int .u64 0, .int .u64 0, .string ⟨#[]⟩, .bool false]), 7, 64) := by kernel_rfl
def z77 : S39 := ⟨77, ⟨0, 0⟩, ⟨0, 0⟩, ⟨#[]⟩, false⟩
set_option maxRecDepth 100000 in
set_option maxHeartbeats 4000000 in
theorem memory_walk (k : Nat) (A0 : Option Addr) (c0 : Nat) (l0 : List S39) (a1 : ByteArray) (w : World) (hl : l0.length * 64 ≤ 140737488351232) (hr0 : Kd.C k39 w A0 l0.length l0) (hc0 : l0.length ≤ c0)
    (haw : tenancylaw17_awake.f k = some true) (hsame : tenancylaw17_same.f k l0 l0 = some true) :
    Calls Try.prog 8 #[.slice A0 l0.length c0, .string a1] w fun e w' => e = .returned (.bool true) ∧ Below w.heap.size w w' := by
  have HR := Aside0.mk hr0
  have HC := Aside0.mk hc0
  have HAW := Aside0.mk haw
  have HSM := Aside0.mk hsame
  have HL := Aside0.mk hl
  obtain ⟨n, hn⟩ : ∃ n, n = l0.length := ⟨_, rfl⟩
  have hw1 : wrap64 ((n : Int) + 1) = (n : Int) + 1 := by unfold wrap64; omega
  have HN := Aside0.mk hn
  rw [← hn]
  clear hr0 hc0 haw hsame hl hn
  go_enter Try.func8, Try.ntmps8
  go_upto_region 4 with (go_at_call 9; refine (tenancylaw17_awake.calls k true _ HAW.out).mono ?_; rintro e wa ⟨rfl, hb⟩; have HBa := Aside0.mk hb; clear hb)
  go_upto_region 5 with (first | (refine XRun.R_make0 k39 _ 39 rfl (N := 21) rfl 23 _ _ rfl _ rfl rfl Try.underlying23 (.agg #[(.int .i64 0), (.int .u64 0), (.int .u64 0), (.int .u64 0), (.int .u64 0), (.string ⟨#[]⟩), (.bool false)]) 64 info39m rfl (by decide) (by omega) z39 (ok := fun _ => True) (okp := fun _ => True) (k39_mkM _ _ _ z39 ) (fun _ hk => hk) trivial ?mz ?ml (Below.refl _ _) (Nat.le_refl _) ?_; (case mz => omega); (case ml => have := HL.out; have := HN.out; omega); intro v1 w1 ho hb hg_ hnew_; have HO := Aside0.mk ho; have HB1 := Aside0.mk (below_step HBa.out hb); clear hg_ hnew_ ho hb))
  have HO1 := Aside0.mk (Kd.R_lower HO.out (show w.heap.size ≤ wa.heap.size from HBa.out.size))
  clear HO
  have HN2 := HN
  go_upto_region 6 with ((with_reducible refine gate_builtin (b := .append) (xs := #[.tmp 22, .tmp 23]) rfl ?_); at_builtin; refine Kd.R_append_rows k39 (Rr := k39.K w1) (w0 := w) w.heap.size rfl (.tmp 22) (.tmp 23) 23 39 (.agg #[(.int .i64 0), (.int .u64 0), (.int .u64 0), (.int .u64 0), (.int .u64 0), (.string ⟨#[]⟩), (.bool false)]) 64 rfl Try.underlying23 info39m rfl (by decide) (by omega) v1 [] l0 A0 n c0 (fun _ => True) (fun _ => False) rfl rfl HO1.out ?aR ?aK (fun _ h => h.elim) (fun _ _ => trivial) HB1.out HB1.out.size ?aL ?_; (case aR => rw [HN.out]; exact Kd.C_below HR.out HB1.out); (case aK => exact fun _ _ h => h); (case aL => have := HL.out; have := HN.out; simp only [List.length_nil]; omega); intro v2 w2 ho hb hg_ hnew_; rw [List.nil_append] at ho; have HO2 := Aside0.mk ho; have HB2 := Aside0.mk hb; clear hg_ hnew_ ho hb)
  clear HO1 HB1
  go_upto_region 7 with ((with_reducible refine gate_builtin (b := .append) (xs := #[.tmp 25, .tmp 27]) rfl ?_); at_builtin; refine Kd.R_append k39 (w0 := w) w.heap.size rfl (.tmp 25) (.tmp 27) 23 39 (.agg #[(.int .i64 0), (.int .u64 0), (.int .u64 0), (.int .u64 0), (.int .u64 0), (.string ⟨#[]⟩), (.bool false)]) 64 rfl Try.underlying23 info39m rfl (by decide) (by omega) v2 l0 z77 [.int .i64 77, .int .u64 0, .int .u64 0, .int .u64 0, .int .u64 0, .string (⟨#[]⟩ : ByteArray), .bool false] (fun _ => True) (fun _ => False) rfl rfl (k39_mkM _ _ _ z77) (fun _ hk => hk.elim) (fun _ _ => trivial) HO2.out HB2.out HB2.out.size ?aL ?_; (case aL => have := HL.out; have := HN.out; omega); intro v3 w3 ho hb hg_ hnew_; have HO3 := Aside0.mk ho; have HB3 := Aside0.mk hb; clear hg_ hnew_ ho hb)
  clear HO2 HB2
  obtain ⟨A3, c3, rfl, hle3, hC3⟩ := Kd.R_reads HO3.out
  have hlen3 : (l0 ++ [z77]).length = n + 1 := by rw [List.length_append, ← HN.out]; rfl
  have HC3 := Aside0.mk hC3
  have HLE3 := Aside0.mk hle3
  have hc3n : (n ≤ c3) = True := eq_true (by omega)
  have hc3n2 : ((n : Int) ≤ (c3 : Int)) = True := eq_true (by omega)
  rw [hlen3]
  clear HO3 hC3 hle3 hlen3
  obtain ⟨⟨r1, r2⟩, hg⟩ : ∃ r, relay_Wrap.g 13 l0 a1 = r := ⟨_, rfl⟩
  obtain ⟨⟨x1, x2, x3⟩, hk⟩ : ∃ r, relay_Link.l l0.reverse = r := ⟨_, rfl⟩
  have HG : Aside0 (relay_Wrap.f 13 l0 a1 = some (r1, r2)) := ⟨congrArg some hg⟩
  have HK : Aside0 (relay_Link.f l0 = some (x1, x2, x3)) := ⟨congrArg some hk⟩
  have HP := Aside0.mk (show Kd.C k39 w3 A3 l0.length l0 by
    have h := Kd.C_take (m := l0.length) HC3.out (by simp)
    rwa [List.take_left] at h)
  have HRD : Aside0 (rd_T39 (l0 ++ [z77]) (n : Int) = z77) := ⟨by rw [HN.out]; simp [rd_T39, List.getD_eq_getElem?_getD]⟩
  clear hg hk
  go_upto_region 8 with (go_at_call 13; rw [HN.out]; refine (relay_Wrap.calls 13 A3 c3 l0 a1 r1 r2 _ HP.out (by have := HLE3.out; simp only [List.length_append] at this; omega) HG.out).mono ?_; rintro e w4 ⟨rfl, hb⟩; have HB4 := Aside0.mk (below_step HB3.out hb); have HS4 := Aside0.mk hb; rw [← HN.out]; clear hb)
  go_upto_region 9 with (go_at_call 13; rw [HN.out]; refine (relay_Wrap.calls 13 A0 c0 l0 a1 r1 r2 _ (Kd.C_below HR.out HB4.out) HC.out HG.out).mono ?_; rintro e w5 ⟨rfl, hb⟩; have HB5 := Aside0.mk (below_step HB4.out hb); have HS5 := Aside0.mk (below_step HS4.out hb); rw [← HN.out]; clear hb)
  clear HB4 HS4
  go_upto_region 10 with (go_at_call 15; rw [HN.out]; refine (relay_Link.calls A3 c3 l0 x1 x2 x3 _ (Kd.C_below HP.out HS5.out) (by have := HLE3.out; simp only [List.length_append] at this; omega) HK.out).mono ?_; rintro e w6 ⟨rfl, hb⟩; have HB6 := Aside0.mk (below_step HB5.out hb); have HS6 := Aside0.mk (below_step HS5.out hb); rw [← HN.out]; clear hb)
  have BK1 := Aside0.mk (blk_new w6 (.cells #[.int .u64 x1, .int .u64 x2] 33))
  have HB7 := Aside0.mk (below_alloc HB6.out (.cells #[.int .u64 x1, .int .u64 x2] 33))
  have HS7 := Aside0.mk (HS6.out.trans ((Below.refl w6.heap.size w6).alloc (Nat.le_refl _) (.cells #[.int .u64 x1, .int .u64 x2] 33) |>.mono HS6.out.size))
  generalize hg1 : w6.heap.size = g1 at BK1 ⊢
  generalize w6.alloc (.cells #[.int .u64 x1, .int .u64 x2] 33) = w7 at BK1 HB7 HS7 ⊢
  clear HB5 HS5 HB6 HS6 hg1
  go_upto_region 11 with (go_at_call 15; rw [HN.out]; refine (relay_Link.calls A0 c0 l0 x1 x2 x3 _ (Kd.C_below HR.out HB7.out) HC.out HK.out).mono ?_; rintro e w8 ⟨rfl, hb⟩; have HB8 := Aside0.mk (below_step HB7.out hb); have HS8 := Aside0.mk (below_step HS7.out hb); have BK2 := Aside0.mk (blk_below BK1.out hb); rw [← HN.out]; clear hb)
  have BK3 := Aside0.mk (blk_new w8 (.cells #[.int .u64 x1, .int .u64 x2] 33))
  have BK4 := Aside0.mk (blk_alloc BK2.out (.cells #[.int .u64 x1, .int .u64 x2] 33))
  have HB9 := Aside0.mk (below_alloc HB8.out (.cells #[.int .u64 x1, .int .u64 x2] 33))
  have HS9 := Aside0.mk (HS8.out.trans ((Below.refl w8.heap.size w8).alloc (Nat.le_refl _) (.cells #[.int .u64 x1, .int .u64 x2] 33) |>.mono HS8.out.size))
  generalize hg2 : w8.heap.size = g2 at BK3 ⊢
  generalize w8.alloc (.cells #[.int .u64 x1, .int .u64 x2] 33) = w9 at BK3 BK4 HB9 HS9 ⊢
  clear HB7 HS7 HB8 HS8 BK1 BK2 hg2
  go_wp2_with (first
    | ((with_reducible refine gate_dst (N := 64) rfl ?_); (try (refine gate_guard (by rfl) ?_; dsimp only)); refine XBox.loadL_ 64 rfl rfl 33 rfl g1 rfl _ BK4.out Try.underlying33 rfl (by kernel_rfl) ?_; simp only [Act.put, List.setIfInBounds_toArray, List.set_cons_zero, List.set_cons_succ])
    | ((with_reducible refine gate_dst (N := 65) rfl ?_); (try (refine gate_guard (by rfl) ?_; dsimp only)); refine XBox.loadL_ 65 rfl rfl 33 rfl g2 rfl _ BK3.out Try.underlying33 rfl (by kernel_rfl) ?_; simp only [Act.put, List.setIfInBounds_toArray, List.set_cons_zero, List.set_cons_succ])
    | (go_at_call 12; rw [HN.out]; refine (tenancylaw17_same.calls k A3 c3 l0 A0 c0 l0 true _ (Kd.C_below HP.out HS9.out) (by have := HLE3.out; simp only [List.length_append] at this; omega) (Kd.C_below HR.out HB9.out) HC.out HSM.out).mono ?_; rintro e w10 ⟨rfl, hd⟩; have HB10 := Aside0.mk (below_step HB9.out hd.below); have HS10 := Aside0.mk (below_step HS9.out hd.below); obtain ⟨ad, hA, hx0, hx1, hx2, hx3, hx4, hx5, hx6⟩ := at_T39 (Kd.C_below HC3.out HS10.out) (n : Int) (by omega) (by have := HN.out; simp only [List.length_append, List.length_singleton]; omega); subst hA; rw [HRD.out] at hx0 hx1 hx2 hx3 hx4 hx5 hx6; simp only [Int.toNat_natCast] at hx0 hx1 hx2 hx3 hx4 hx5 hx6; dsimp only [z77] at hx0 hx1 hx2 hx3 hx4 hx5 hx6; rw [← HN.out]; clear hd))
  go_ret
  exact ⟨rfl, HB10.out⟩
end Go.Proofs.Ytfpamalmkmhpgaa.X
