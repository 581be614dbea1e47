/- Functions of the program as Lean functions, and that the calls come to them: no condition.  By this session's own program (wip/xprint). -/
import Derived.Test.YthadapbekmmgpaaDX0
import Derived.Test.YthadapbekmmgpaaDX1
import Derived.Test.YthadapbekmmgpaaDX2
import Derived.Test.YthadapbekmmgpaaDX3
namespace Go.Proofs.Ythadapbekmmgpaa.X
open Go.RowKit Go.Proofs.YthadapbekmmgpaaW.PrintWords Go.Proofs.YthadapbekmmgpaaW.PrintLast Go.Proofs.YthadapbekmmgpaaW.PrintMore
attribute [local go_sem] max2_int min2_int max_two min_two max_three min_three max_four min_four
set_option linter.unusedVariables false
set_option linter.unusedSimpArgs false

attribute [local go_sem high] eqA56
def fault (e : Int) : Value := .iface 117 (.agg #[.int .i64 e])
theorem must_ok (w : World) : Calls Try.prog 81 #[.int .i64 0] w fun e w' => e = .returned (.tuple #[]) ∧ Below w.heap.size w w' := by
 go_enter Try.func81, Try.ntmps81
 go_wp2
 go_end0
 exact ⟨rfl, Below.refl _ _⟩
theorem must_bad (x : Int) (hx : (x != 0) = true) (w : World) : Calls Try.prog 81 #[.int .i64 x] w fun e w' => e = .panicked [{ v := fault x, recovered := false }] ∧ Below w.heap.size w w' := by
 have hu86 := Try.underlying117
 go_enter Try.func81, Try.ntmps81
 go_wp2
 exact ⟨rfl, rfl, Below.refl _ _⟩
theorem ahead_ok (data : ByteArray) (size : Int) (s : ByteArray) (w : World) (h : octet_Cut.f data 0 size = some (s, true)) : Calls Try.prog 80 #[.string data, .int .i64 size] w fun e w' => e = .returned (.string s) ∧ Below w.heap.size w w' := by
 have H := ak_ h
 clear h
 go_enter Try.func80, Try.ntmps80
 go_wp2_with (go_at_call 60; refine (octet_Cut.calls data 0 size s true _ H.out).mono ?_; rintro e w1 ⟨rfl, hd⟩; have HB1 := ak_ hd; clear hd)
 go_ret
 exact ⟨rfl, HB1.out⟩
theorem ahead_bad (data : ByteArray) (size : Int) (s : ByteArray) (w : World) (h : octet_Cut.f data 0 size = some (s, false)) : Calls Try.prog 80 #[.string data, .int .i64 size] w fun e w' => e = .panicked [{ v := fault 3, recovered := false }] ∧ Below w.heap.size w w' := by
 have H := ak_ h
 clear h
 go_enter Try.func80, Try.ntmps80
 go_wp2_with (first
  | (go_at_call 60; refine (octet_Cut.calls data 0 size s false _ H.out).mono ?_; rintro e w1 ⟨rfl, hd⟩; have HB1 := ak_ hd; clear hd)
  | (go_at_call 81; refine (must_bad 3 (by decide) _).mono ?_; rintro e w2 ⟨rfl, hb⟩; have HB2 := ak_ (below_step HB1.out hb); clear hb))
 exact ⟨rfl, rfl, HB2.out⟩
theorem take_bad (k : Nat) (ptr : Value) (code : Int) (data : ByteArray) (c : Int) (w : World) (h : opt6_GetStatus.f k data = some (c, false)) : Calls Try.prog 82 #[ptr, .agg #[.int .u16 code, .string data]] w fun e w' => e = .panicked [{ v := fault 130, recovered := false }] ∧ Below w.heap.size w w' := by
 have H := ak_ h
 clear h
 have hu40 := Try.underlying42
 go_enter Try.func82, Try.ntmps82
 go_wp2_with (first
  | (go_at_call 52; refine (opt6_GetStatus.calls k data c false _ H.out).mono ?_; rintro e w1 ⟨rfl, hd⟩; have HB1 := ak_ (below_step (below_alloc (Below.refl _ w) _) hd); clear hd)
  | (go_at_call 81; refine (must_bad 130 (by decide) _).mono ?_; rintro e w2 ⟨rfl, hb⟩; have HB2 := ak_ (below_step HB1.out hb); clear hb))
 exact ⟨rfl, rfl, HB2.out⟩
set_option maxHeartbeats 4000000 in
set_option maxRecDepth 100000 in
/-- The first status counts. -/
theorem take_ok (k : Nat) (b j : Nat) (cur code : Int) (data : ByteArray) (c : Int) (w : World) (hc : w.cell? ⟨b, j, none⟩ = some (.int .i64 cur)) (hf : w.frozen? ⟨b, j, none⟩ = false) (h : opt6_GetStatus.f k data = some (c, true)) :
 Calls Try.prog 82 #[.pointer (some ⟨b, j, none⟩), .agg #[.int .u16 code, .string data]] w fun e w' => e = .returned (.tuple #[]) ∧ ∃ w1, Below w.heap.size w w1 ∧ w' = if cur = -1 then w1.setCell ⟨b, j, none⟩ (.int .i64 c) else w1 := by
 have H := ak_ h
 have HC := ak_ hc
 have HBL := ak_ (World.block_lt_of_cell? w _ hc)
 have hu40 := Try.underlying42
 have HF := ak_ hf
 clear h hc hf
 by_cases hcur : cur = -1
 ·subst hcur
  go_enter Try.func82, Try.ntmps82
  go_wp2_with (go_at_call 52; refine (opt6_GetStatus.calls k data c true _ H.out).mono ?_; rintro e w1 ⟨rfl, hd⟩; have HB1 := ak_ (below_step (below_alloc (Below.refl _ w) _) hd); have hc1 : w1.cell? ⟨b, j, none⟩ = some (.int .i64 (-1)) := (HB1.out.cell HBL.out).trans HC.out; have hf1 : w1.frozen? ⟨b, j, none⟩ = false := (HB1.out.frozen HBL.out).trans HF.out; clear hd)
  go_end0
  exact ⟨rfl, w1, HB1.out, rfl⟩
 have hn : (cur == -1) = false := by simpa using hcur
 go_enter Try.func82, Try.ntmps82
 go_wp2_with (go_at_call 52; refine (opt6_GetStatus.calls k data c true _ H.out).mono ?_; rintro e w1 ⟨rfl, hd⟩; have HB1 := ak_ (below_step (below_alloc (Below.refl _ w) _) hd); have hc1 : w1.cell? ⟨b, j, none⟩ = some (.int .i64 cur) := (HB1.out.cell HBL.out).trans HC.out; clear hd)
 go_end0
 exact ⟨rfl, HB1.out⟩
theorem opt6_readInner.ends (W : World) (gr : Nat) (cs : Array Value) (hs : cs.size = 6) {tmps : Array Value} (br : W.heap[gr]? = some (.cells cs 58 (0, 0))) (h4 : tmps[4]? = some (.pointer (some ⟨gr, 0, none⟩))) : (results Try.f83 tmps).run Try.prog W = .ok (.agg cs) W := by
 have hi76 : (Try.prog.info? 58).map (·.size) = some cs.size := by rw [hs]; kernel_rfl
 have r := run_loadVar_row (P := Try.prog) W gr 58 58 cs (0, 0) _ br Try.underlying58 rfl hi76
 have hfr : Try.f83.results = #[.cell 4 58] := by kernel_rfl
 have hp : tmps[4]?.getD undef = .pointer (some ⟨gr, 0, none⟩) := by rw [h4]; rfl
 simp [results, hfr, hp, asAddr, r, Result.andThen]
/-- The statuses among options: the first counts; none: one is none. -/
def statS (k : Nat) : List S42 → Int → Option (Option Int)
  | [], cur => some (some cur)
  | x :: l, cur => if x.f0 = 13 then (opt6_GetStatus.f k x.f1).bind fun c => if c.2 = true then statS k l (if cur = -1 then c.1 else cur) else some none else statS k l cur
set_option maxHeartbeats 8000000 in
set_option maxRecDepth 100000 in
theorem opt6_readInner.other_ok (k : Nat) (kind : Int) (hk4 : (kind == 4) = false) (data head : ByteArray) (p v : Int) (pb vb : Bool) (a0 a1 : Int) (ab : Bool) (l : List S42) (c : Int) (w : World) (hcut : octet_Cut.f data 0 24 = some (head, true)) (hp : octet_Get32.f k head 16 = some (p, pb)) (hv : octet_Get32.f k head 20 = some (v, vb)) (ha : octet_GetAddr.f k head 0 = some (a0, a1, ab)) (hs : addr_Sound.f k a0 a1 128 = some true) (hsz : 24 ≤ data.size) (hl : opt6_Parse.f k (data.extract 24 data.size) = some (l, 0)) (hst : statS k l (-1) = some (some c)) :
 Calls Try.prog 83 #[.int .i64 kind, .string data] w fun e w' => e = .returned (.agg #[.int .u64 a0, .int .u64 a1, .int .i64 128, .int .u32 p, .int .u32 v, .int .i64 c]) ∧ Below w.heap.size w w' := by
 have HCUT := ak_ hcut
 have HP := ak_ hp
 have HV := ak_ hv
 have HA := ak_ ha
 have HS := ak_ hs
 have HL := ak_ hl
 have HST := ak_ hst
 have hu76 := Try.underlying58
 have hu74 := Try.underlying56
 have hu40 := Try.underlying42
 have hi76 : (Try.prog.info? 58).map (·.size) = some 6 := by kernel_rfl
 have hi74 : (Try.prog.info? 56).map (·.size) = some 3 := by kernel_rfl
 clear hcut hp hv ha hs hl hst
 go_enter Try.func83, Try.ntmps83
 go_upto_region 5 with fail
 have BR := ak_ (blk_alloc (blk_new w (.cells #[.int .u64 0, .int .u64 0, .int .i64 0, .int .u32 0, .int .u32 0, .int .i64 0] 58)) (.cells #[.int .u64 0, .int .u64 0, .int .i64 128, .int .u32 0, .int .u32 0, .int .i64 (-1)] 58))
 have bx := blk_new (w.alloc (.cells #[.int .u64 0, .int .u64 0, .int .i64 0, .int .u32 0, .int .u32 0, .int .i64 0] 58)) (.cells #[.int .u64 0, .int .u64 0, .int .i64 128, .int .u32 0, .int .u32 0, .int .i64 (-1)] 58)
 rw [World.size_alloc] at bx
 have BX := ak_ bx
 have HB := ak_ (below_alloc (below_alloc (Below.refl _ w) (.cells #[.int .u64 0, .int .u64 0, .int .i64 0, .int .u32 0, .int .u32 0, .int .i64 0] 58)) (.cells #[.int .u64 0, .int .u64 0, .int .i64 128, .int .u32 0, .int .u32 0, .int .i64 (-1)] 58))
 clear bx
 generalize (w.alloc (.cells #[.int .u64 0, .int .u64 0, .int .i64 0, .int .u32 0, .int .u32 0, .int .i64 0] 58)).alloc (.cells #[.int .u64 0, .int .u64 0, .int .i64 128, .int .u32 0, .int .u32 0, .int .i64 (-1)] 58) = w0 at BR BX HB ⊢
 obtain ⟨gr, hgr⟩ : ∃ gr, gr = w.heap.size := ⟨_, rfl⟩
 have HGR := ak_ hgr
 obtain ⟨gx, hgx⟩ : ∃ gx, gx = w.heap.size + 1 := ⟨_, rfl⟩
 have GX := ak_ (show w.heap.size ≤ gx by omega)
 have GRX := ak_ (show gr ≠ gx by omega)
 rw [← hgx] at BX ⊢
 have BR := ak_ (show w0.heap[gr]? = some (.cells #[.int .u64 0, .int .u64 0, .int .i64 0, .int .u32 0, .int .u32 0, .int .i64 0] 58 (0, 0)) by rw [hgr]; exact BR.out)
 clear hgr hgx
 go_upto_region 6 with (go_at_call 80; refine (ahead_ok data 24 head _ HCUT.out).mono ?_; rintro e w1 ⟨rfl, hb⟩; have BXn := ak_ (blk_below BX.out hb); have BRn := ak_ (blk_below BR.out hb); have HBn := ak_ (below_step HB.out hb); clear hb)
 clear BX BR HB
 have BX := BXn
 have BR := BRn
 have HB := HBn
 clear BXn BRn HBn
 go_upto_region 7 with (go_at_call 29; refine (octet_Get32.calls k head 16 p pb _ HP.out).mono ?_; rintro e w2 ⟨rfl, hb⟩; have BXn := ak_ (blk_below BX.out hb); have BRn := ak_ (blk_below BR.out hb); have HBn := ak_ (below_step HB.out hb); have hc3_ := (blk_cell BXn.out 3).trans rfl; have hf3_ := blk_frozen BXn.out 3; clear hb)
 clear BX BR HB
 have BX := ak_ (blk_put BXn.out 3 (.int .u32 p) rfl)
 have BR := ak_ (blk_far BRn.out (p := ⟨gx, 3, none⟩) GRX.out (.int .u32 p))
 have HB := ak_ (show Below w.heap.size w (w2.setCell ⟨gx, 3, none⟩ (.int .u32 p)) from (below_set (j := 3) (v := (.int .u32 p)) HBn.out GX.out))
 clear BXn BRn HBn hc3_ hf3_
 generalize (w2.setCell ⟨gx, 3, none⟩ (.int .u32 p)) = v2 at BX BR HB ⊢
 go_upto_region 8 with (go_at_call 29; refine (octet_Get32.calls k head 20 v vb _ HV.out).mono ?_; rintro e w3 ⟨rfl, hb⟩; have BXn := ak_ (blk_below BX.out hb); have BRn := ak_ (blk_below BR.out hb); have HBn := ak_ (below_step HB.out hb); have hc4_ := (blk_cell BXn.out 4).trans rfl; have hf4_ := blk_frozen BXn.out 4; clear hb)
 clear BX BR HB
 have BX := ak_ (blk_put BXn.out 4 (.int .u32 v) rfl)
 have BR := ak_ (blk_far BRn.out (p := ⟨gx, 4, none⟩) GRX.out (.int .u32 v))
 have HB := ak_ (show Below w.heap.size w (w3.setCell ⟨gx, 4, none⟩ (.int .u32 v)) from (below_set (j := 4) (v := (.int .u32 v)) HBn.out GX.out))
 clear BXn BRn HBn hc4_ hf4_
 generalize (w3.setCell ⟨gx, 4, none⟩ (.int .u32 v)) = v3 at BX BR HB ⊢
 go_upto_region 9 with (go_at_call 95; refine (octet_GetAddr.calls k head 0 a0 a1 ab _ HA.out).mono ?_; rintro e w4 ⟨rfl, hb⟩; have BXn := ak_ (blk_below BX.out hb); have BRn := ak_ (blk_below BR.out hb); have HBn := ak_ (below_step HB.out hb); have hc0_ := (blk_cell BXn.out 0).trans rfl; have hf0_ := blk_frozen BXn.out 0; have hc1_ := (blk_cell BXn.out 1).trans rfl; have hf1_ := blk_frozen BXn.out 1; clear hb)
 clear BX BR HB
 have BX := ak_ (blk_put (blk_put BXn.out 0 (.int .u64 a0) rfl) 1 (.int .u64 a1) rfl)
 have BR := ak_ (blk_far (blk_far BRn.out (p := ⟨gx, 0, none⟩) GRX.out (.int .u64 a0)) (p := ⟨gx, 1, none⟩) GRX.out (.int .u64 a1))
 have HB := ak_ (show Below w.heap.size w ((w4.setCell ⟨gx, 0, none⟩ (.int .u64 a0)).setCell ⟨gx, 1, none⟩ (.int .u64 a1)) from (below_set (j := 1) (v := (.int .u64 a1)) (below_set (j := 0) (v := (.int .u64 a0)) HBn.out GX.out) GX.out))
 clear BXn BRn HBn hc0_ hf0_ hc1_ hf1_
 generalize ((w4.setCell ⟨gx, 0, none⟩ (.int .u64 a0)).setCell ⟨gx, 1, none⟩ (.int .u64 a1)) = v4 at BX BR HB ⊢
 have BX := ak_ (show v4.heap[gx]? = some (.cells #[.int .u64 a0, .int .u64 a1, .int .i64 128, .int .u32 p, .int .u32 v, .int .i64 (-1)] 58 (0, 0)) from BX.out)
 have h0_ := (blk_cell BX.out 0).trans rfl
 have h1_ := (blk_cell BX.out 1).trans rfl
 have h2_ := (blk_cell BX.out 2).trans rfl
 go_upto_region 13 with (go_at_call 89; refine (addr_Sound.calls k a0 a1 128 true _ HS.out).mono ?_; rintro e w5 ⟨rfl, hb⟩; have BXn := ak_ (blk_below BX.out hb); have BRn := ak_ (blk_below BR.out hb); have HBn := ak_ (below_step HB.out hb); clear hb)
 clear BX BR HB h0_ h1_ h2_
 have z1 : (24 ≤ data.size) = True := eq_true hsz
 have z2 : ((24 : Int) ≤ (data.size : Int)) = True := eq_true (by omega)
 have GXL := ak_ (blk_lt BXn.out)
 go_upto_region 15 with (first | (go_at_call 19; refine (opt6_Parse.calls k _ l 0 _ HL.out).mono ?_; rintro e w6 ⟨v0, rfl, hor, hb⟩; have BXp := ak_ (blk_below BXn.out hb); have BRp := ak_ (blk_below BRn.out hb); have HBp := ak_ (below_step HBn.out hb); have HOR := ak_ (Kd.R_mono (ok' := fun k => w5.heap.size ≤ k) (Kd.R_bound hor) (fun k hk => hk.2.1)); clear hb hor) | (go_at_call 81; refine (must_ok _).mono ?_; rintro e w7 ⟨rfl, hb⟩; have BX := ak_ (blk_below BXp.out hb); have BR := ak_ (blk_below BRp.out hb); have HB := ak_ (below_step HBp.out hb); have HO := ak_ (Kd.R_below HOR.out hb); clear hb))
 clear BXn BRn HBn BXp BRp HBp HOR z1 z2 hsz
 obtain ⟨Al, cl, rfl⟩ := Kd.R_slice HO.out
 obtain ⟨n, hn⟩ : ∃ n, n = l.length := ⟨_, rfl⟩
 have HN := ak_ hn
 rw [← hn]
 rw [← hn] at HO
 clear hn
 generalize hB : w5.heap.size = B at HO GXL
 clear hB
 go_upto_region 16 with fail
 have h := HST.out
 go_loopg [13, 67] n (fun gg _ s67 wr => ∃ (kk : Nat) (cur : Int), Aside0 (kk ≤ n ∧ n - kk ≤ gg) ∧ s67 = .int .i64 kk ∧ Aside0 (wr.heap[gx]? = some (.cells #[.int .u64 a0, .int .u64 a1, .int .i64 128, .int .u32 p, .int .u32 v, .int .i64 cur] 58 (0, 0))) ∧ Aside0 (wr.heap[gr]? = some (.cells #[.int .u64 0, .int .u64 0, .int .i64 0, .int .u32 0, .int .u32 0, .int .i64 0] 58 (0, 0))) ∧ Aside0 (Below w.heap.size w wr) ∧ Aside0 (Kd.R k42 42 wr B (fun k => B ≤ k) (.slice Al n cl) l) ∧ Aside0 (statS k (l.drop kk) cur = some (some c)))
 case atStart => exact ⟨0, -1, ⟨Nat.zero_le _, Nat.le_refl _⟩, rfl, BX, BR, HB, HO, by rw [List.drop_zero]; exact HST⟩
 case round =>
 clear BX BR HB HO h HST
 obtain ⟨kk, cur, HK, rfl, BX, BR, HB, HO, HS⟩ := hrel
 have hC := (Kd.R_reads' HO.out).2.2
 have HMX := ak_ (show n ≤ 9223372036854775807 by have := Kd.C_max hC; have := HN.out; omega)
 by_cases hlt : kk < n
 ·obtain ⟨ad, hA, hx0, hx1⟩ := at_T42 hC (kk : Int) (by omega) (by have := HN.out; omega)
  subst hA
  simp only [Int.toNat_natCast] at hx0 hx1
  have hd : l.drop kk = (rd_T42 l (kk : Int)) :: l.drop (kk + 1) := by
   have hlt' : kk < l.length := by have := HN.out; omega
   rw [List.drop_eq_getElem_cons hlt']
   simp [rd_T42, List.getD_eq_getElem?_getD, List.getElem?_eq_getElem hlt']
  have h := HS.out
  rw [hd, statS] at h
  obtain ⟨x, hx⟩ : ∃ x, x = rd_T42 l (kk : Int) := ⟨_, rfl⟩
  rw [← hx] at h hx0 hx1
  clear hd hx HS hC
  obtain ⟨x0, x1⟩ := x
  dsimp only at h hx0 hx1
  have HLT := ak_ hlt
  have hltz : (kk : Int) < (n : Int) := by omega
  by_cases h13 : x0 = 13
  ·rw [if_pos h13] at h
   obtain ⟨⟨cc, ok⟩, hg, h⟩ := Option.bind_eq_some_iff.1 h
   dsimp only at h
   cases ok with
   | false => rw [if_neg (by decide)] at h; exact absurd (Option.some.inj h) (by simp)
   | true =>
   rw [if_pos rfl] at h
   have HG := ak_ hg
   have hb13 : (x0 == 13) = true := by simpa using h13
   clear hg h13
   by_cases hcur : cur = -1
   ·rw [if_pos hcur] at h
    have H' := ak_ h
    clear h
    go_wp2_with (go_at_call 82; refine (take_ok k gx 5 cur x0 x1 cc _ ((blk_cell (blk_alloc BX.out _) 5).trans rfl) (blk_frozen (blk_alloc BX.out _) 5) HG.out).mono ?_; rintro e w9 ⟨rfl, w1, hb, hw⟩; rw [if_pos hcur] at hw; subst hw; have BX9 := ak_ (blk_put (blk_below (blk_alloc BX.out (.cells #[.int .u16 x0, .string x1] 42)) hb) 5 (.int .i64 cc) rfl); have BR9 := ak_ (blk_far (blk_below (blk_alloc BR.out (.cells #[.int .u16 x0, .string x1] 42)) hb) (p := ⟨gx, 5, none⟩) GRX.out (.int .i64 cc)); have HB9 := ak_ (show Below w.heap.size w (w1.setCell ⟨gx, 5, none⟩ (.int .i64 cc)) from below_set (below_step (below_alloc HB.out _) hb) GX.out); have HO9 := ak_ (Kd.R_far (Kd.R_below (Kd.R_alloc HO.out (.cells #[.int .u16 x0, .string x1] 42)) hb) (p := ⟨gx, 5, none⟩) (fun q hq => Nat.ne_of_gt (Nat.lt_of_lt_of_le GXL.out hq)) (.int .i64 cc)); clear hb)
    go_roundg (n - (kk + 1))
    case measure => have := HK.out; have := HLT.out; omega
    case rel => exact ⟨kk + 1, cc, ⟨by have := HLT.out; omega, Nat.le_refl _⟩, by rw [Go.IntWalk.wrap64_in _ (by have := HLT.out; have := HMX.out; omega)]; rfl, BX9, BR9, HB9, HO9, H'⟩
   rw [if_neg hcur] at h
   have H' := ak_ h
   clear h
   go_wp2_with (go_at_call 82; refine (take_ok k gx 5 cur x0 x1 cc _ ((blk_cell (blk_alloc BX.out _) 5).trans rfl) (blk_frozen (blk_alloc BX.out _) 5) HG.out).mono ?_; rintro e w9 ⟨rfl, w1, hb, hw⟩; rw [if_neg hcur] at hw; subst hw; have BX9 := ak_ (blk_below (blk_alloc BX.out (.cells #[.int .u16 x0, .string x1] 42)) hb); have BR9 := ak_ (blk_below (blk_alloc BR.out (.cells #[.int .u16 x0, .string x1] 42)) hb); have HB9 := ak_ (below_step (below_alloc HB.out _) hb); have HO9 := ak_ (Kd.R_below (Kd.R_alloc HO.out (.cells #[.int .u16 x0, .string x1] 42)) hb); clear hb)
   go_roundg (n - (kk + 1))
   case measure => have := HK.out; have := HLT.out; omega
   case rel => exact ⟨kk + 1, cur, ⟨by have := HLT.out; omega, Nat.le_refl _⟩, by rw [Go.IntWalk.wrap64_in _ (by have := HLT.out; have := HMX.out; omega)]; rfl, BX9, BR9, HB9, HO9, H'⟩
  rw [if_neg h13] at h
  have H' := ak_ h
  have hb13 : (x0 == 13) = false := by simpa using h13
  clear h h13
  go_wp2
  go_roundg (n - (kk + 1))
  case measure => have := HK.out; have := HLT.out; omega
  case rel => exact ⟨kk + 1, cur, ⟨by have := HLT.out; omega, Nat.le_refl _⟩, by rw [Go.IntWalk.wrap64_in _ (by have := HLT.out; have := HMX.out; omega)]; rfl, ⟨blk_alloc BX.out _⟩, ⟨blk_alloc BR.out _⟩, ⟨below_alloc HB.out _⟩, ⟨Kd.R_alloc HO.out _⟩, H'⟩
 obtain rfl : kk = n := by have := HK.out; omega
 have h := HS.out
 rw [HN.out, List.drop_length, statS] at h
 obtain rfl : cur = c := by simpa using h
 clear h HS hC HO
 go_wp2_with (first
  | ((with_reducible refine gate_dst (N := 78) rfl ?_); refine XBox.loadL_ 78 rfl rfl 58 rfl gx rfl _ BX.out hu76 rfl hi76 ?_; simp only [Act.put, List.setIfInBounds_toArray, List.set_cons_zero, List.set_cons_succ])
  | ((with_reducible refine gate_store (p := 4) rfl ?_); rw [← HGR.out]; refine XBox.storeL_ rfl rfl 58 rfl gr rfl _ #[.int .u64 a0, .int .u64 a1, .int .i64 128, .int .u32 p, .int .u32 v, .int .i64 cur] rfl BR.out hi76 (Eq.refl 6) (by simp [Value.oneCell']) ?_; intro wv hw1 hw2 hw3; have BV := ak_ hw1; have HV9 := ak_ (HB.out.trans (hw2 _ (by rw [HGR.out]; exact Nat.le_refl _))); clear hw1 hw2 hw3))
 exact bodyPost_ret (opt6_readInner.ends wv gr _ rfl BV.out rfl) rfl ⟨rfl, HV9.out⟩
set_option maxHeartbeats 8000000 in
set_option maxRecDepth 100000 in
theorem opt6_readInner.other_e3 (k : Nat) (kind : Int) (hk4 : (kind == 4) = false) (data head : ByteArray) (p v : Int) (pb vb : Bool) (a0 a1 : Int) (ab : Bool) (l : List S42) (c : Int) (w : World) (hcut : octet_Cut.f data 0 24 = some (head, false)) :
 Calls Try.prog 83 #[.int .i64 kind, .string data] w fun e w' => e = .panicked [{ v := fault 3, recovered := false }] ∧ Below w.heap.size w w' := by
 have HCUT := ak_ hcut
 have hu76 := Try.underlying58
 have hu74 := Try.underlying56
 have hu40 := Try.underlying42
 have hi76 : (Try.prog.info? 58).map (·.size) = some 6 := by kernel_rfl
 have hi74 : (Try.prog.info? 56).map (·.size) = some 3 := by kernel_rfl
 clear hcut
 go_enter Try.func83, Try.ntmps83
 go_upto_region 5 with fail
 have BR := ak_ (blk_alloc (blk_new w (.cells #[.int .u64 0, .int .u64 0, .int .i64 0, .int .u32 0, .int .u32 0, .int .i64 0] 58)) (.cells #[.int .u64 0, .int .u64 0, .int .i64 128, .int .u32 0, .int .u32 0, .int .i64 (-1)] 58))
 have bx := blk_new (w.alloc (.cells #[.int .u64 0, .int .u64 0, .int .i64 0, .int .u32 0, .int .u32 0, .int .i64 0] 58)) (.cells #[.int .u64 0, .int .u64 0, .int .i64 128, .int .u32 0, .int .u32 0, .int .i64 (-1)] 58)
 rw [World.size_alloc] at bx
 have BX := ak_ bx
 have HB := ak_ (below_alloc (below_alloc (Below.refl _ w) (.cells #[.int .u64 0, .int .u64 0, .int .i64 0, .int .u32 0, .int .u32 0, .int .i64 0] 58)) (.cells #[.int .u64 0, .int .u64 0, .int .i64 128, .int .u32 0, .int .u32 0, .int .i64 (-1)] 58))
 clear bx
 generalize (w.alloc (.cells #[.int .u64 0, .int .u64 0, .int .i64 0, .int .u32 0, .int .u32 0, .int .i64 0] 58)).alloc (.cells #[.int .u64 0, .int .u64 0, .int .i64 128, .int .u32 0, .int .u32 0, .int .i64 (-1)] 58) = w0 at BR BX HB ⊢
 obtain ⟨gr, hgr⟩ : ∃ gr, gr = w.heap.size := ⟨_, rfl⟩
 have HGR := ak_ hgr
 obtain ⟨gx, hgx⟩ : ∃ gx, gx = w.heap.size + 1 := ⟨_, rfl⟩
 have GX := ak_ (show w.heap.size ≤ gx by omega)
 have GRX := ak_ (show gr ≠ gx by omega)
 rw [← hgx] at BX ⊢
 have BR := ak_ (show w0.heap[gr]? = some (.cells #[.int .u64 0, .int .u64 0, .int .i64 0, .int .u32 0, .int .u32 0, .int .i64 0] 58 (0, 0)) by rw [hgr]; exact BR.out)
 clear hgr hgx
 go_wp2_with (go_at_call 80; refine (ahead_bad data 24 head _ HCUT.out).mono ?_; rintro e w1 ⟨rfl, hb⟩; have HBn := ak_ (below_step HB.out hb); clear hb)
 exact ⟨rfl, rfl, HBn.out⟩
set_option maxHeartbeats 8000000 in
set_option maxRecDepth 100000 in
theorem opt6_readInner.other_es (k : Nat) (kind : Int) (hk4 : (kind == 4) = false) (data head : ByteArray) (p v : Int) (pb vb : Bool) (a0 a1 : Int) (ab : Bool) (l : List S42) (c : Int) (w : World) (hcut : octet_Cut.f data 0 24 = some (head, true)) (hp : octet_Get32.f k head 16 = some (p, pb)) (hv : octet_Get32.f k head 20 = some (v, vb)) (ha : octet_GetAddr.f k head 0 = some (a0, a1, ab)) (hs : addr_Sound.f k a0 a1 128 = some false) :
 Calls Try.prog 83 #[.int .i64 kind, .string data] w fun e w' => e = .panicked [{ v := fault 130, recovered := false }] ∧ Below w.heap.size w w' := by
 have HCUT := ak_ hcut
 have HP := ak_ hp
 have HV := ak_ hv
 have HA := ak_ ha
 have HS := ak_ hs
 have hu76 := Try.underlying58
 have hu74 := Try.underlying56
 have hu40 := Try.underlying42
 have hi76 : (Try.prog.info? 58).map (·.size) = some 6 := by kernel_rfl
 have hi74 : (Try.prog.info? 56).map (·.size) = some 3 := by kernel_rfl
 clear hcut hp hv ha hs
 go_enter Try.func83, Try.ntmps83
 go_upto_region 5 with fail
 have BR := ak_ (blk_alloc (blk_new w (.cells #[.int .u64 0, .int .u64 0, .int .i64 0, .int .u32 0, .int .u32 0, .int .i64 0] 58)) (.cells #[.int .u64 0, .int .u64 0, .int .i64 128, .int .u32 0, .int .u32 0, .int .i64 (-1)] 58))
 have bx := blk_new (w.alloc (.cells #[.int .u64 0, .int .u64 0, .int .i64 0, .int .u32 0, .int .u32 0, .int .i64 0] 58)) (.cells #[.int .u64 0, .int .u64 0, .int .i64 128, .int .u32 0, .int .u32 0, .int .i64 (-1)] 58)
 rw [World.size_alloc] at bx
 have BX := ak_ bx
 have HB := ak_ (below_alloc (below_alloc (Below.refl _ w) (.cells #[.int .u64 0, .int .u64 0, .int .i64 0, .int .u32 0, .int .u32 0, .int .i64 0] 58)) (.cells #[.int .u64 0, .int .u64 0, .int .i64 128, .int .u32 0, .int .u32 0, .int .i64 (-1)] 58))
 clear bx
 generalize (w.alloc (.cells #[.int .u64 0, .int .u64 0, .int .i64 0, .int .u32 0, .int .u32 0, .int .i64 0] 58)).alloc (.cells #[.int .u64 0, .int .u64 0, .int .i64 128, .int .u32 0, .int .u32 0, .int .i64 (-1)] 58) = w0 at BR BX HB ⊢
 obtain ⟨gr, hgr⟩ : ∃ gr, gr = w.heap.size := ⟨_, rfl⟩
 have HGR := ak_ hgr
 obtain ⟨gx, hgx⟩ : ∃ gx, gx = w.heap.size + 1 := ⟨_, rfl⟩
 have GX := ak_ (show w.heap.size ≤ gx by omega)
 have GRX := ak_ (show gr ≠ gx by omega)
 rw [← hgx] at BX ⊢
 have BR := ak_ (show w0.heap[gr]? = some (.cells #[.int .u64 0, .int .u64 0, .int .i64 0, .int .u32 0, .int .u32 0, .int .i64 0] 58 (0, 0)) by rw [hgr]; exact BR.out)
 clear hgr hgx
 go_upto_region 6 with (go_at_call 80; refine (ahead_ok data 24 head _ HCUT.out).mono ?_; rintro e w1 ⟨rfl, hb⟩; have BXn := ak_ (blk_below BX.out hb); have BRn := ak_ (blk_below BR.out hb); have HBn := ak_ (below_step HB.out hb); clear hb)
 clear BX BR HB
 have BX := BXn
 have BR := BRn
 have HB := HBn
 clear BXn BRn HBn
 go_upto_region 7 with (go_at_call 29; refine (octet_Get32.calls k head 16 p pb _ HP.out).mono ?_; rintro e w2 ⟨rfl, hb⟩; have BXn := ak_ (blk_below BX.out hb); have BRn := ak_ (blk_below BR.out hb); have HBn := ak_ (below_step HB.out hb); have hc3_ := (blk_cell BXn.out 3).trans rfl; have hf3_ := blk_frozen BXn.out 3; clear hb)
 clear BX BR HB
 have BX := ak_ (blk_put BXn.out 3 (.int .u32 p) rfl)
 have BR := ak_ (blk_far BRn.out (p := ⟨gx, 3, none⟩) GRX.out (.int .u32 p))
 have HB := ak_ (show Below w.heap.size w (w2.setCell ⟨gx, 3, none⟩ (.int .u32 p)) from (below_set (j := 3) (v := (.int .u32 p)) HBn.out GX.out))
 clear BXn BRn HBn hc3_ hf3_
 generalize (w2.setCell ⟨gx, 3, none⟩ (.int .u32 p)) = v2 at BX BR HB ⊢
 go_upto_region 8 with (go_at_call 29; refine (octet_Get32.calls k head 20 v vb _ HV.out).mono ?_; rintro e w3 ⟨rfl, hb⟩; have BXn := ak_ (blk_below BX.out hb); have BRn := ak_ (blk_below BR.out hb); have HBn := ak_ (below_step HB.out hb); have hc4_ := (blk_cell BXn.out 4).trans rfl; have hf4_ := blk_frozen BXn.out 4; clear hb)
 clear BX BR HB
 have BX := ak_ (blk_put BXn.out 4 (.int .u32 v) rfl)
 have BR := ak_ (blk_far BRn.out (p := ⟨gx, 4, none⟩) GRX.out (.int .u32 v))
 have HB := ak_ (show Below w.heap.size w (w3.setCell ⟨gx, 4, none⟩ (.int .u32 v)) from (below_set (j := 4) (v := (.int .u32 v)) HBn.out GX.out))
 clear BXn BRn HBn hc4_ hf4_
 generalize (w3.setCell ⟨gx, 4, none⟩ (.int .u32 v)) = v3 at BX BR HB ⊢
 go_upto_region 9 with (go_at_call 95; refine (octet_GetAddr.calls k head 0 a0 a1 ab _ HA.out).mono ?_; rintro e w4 ⟨rfl, hb⟩; have BXn := ak_ (blk_below BX.out hb); have BRn := ak_ (blk_below BR.out hb); have HBn := ak_ (below_step HB.out hb); have hc0_ := (blk_cell BXn.out 0).trans rfl; have hf0_ := blk_frozen BXn.out 0; have hc1_ := (blk_cell BXn.out 1).trans rfl; have hf1_ := blk_frozen BXn.out 1; clear hb)
 clear BX BR HB
 have BX := ak_ (blk_put (blk_put BXn.out 0 (.int .u64 a0) rfl) 1 (.int .u64 a1) rfl)
 have BR := ak_ (blk_far (blk_far BRn.out (p := ⟨gx, 0, none⟩) GRX.out (.int .u64 a0)) (p := ⟨gx, 1, none⟩) GRX.out (.int .u64 a1))
 have HB := ak_ (show Below w.heap.size w ((w4.setCell ⟨gx, 0, none⟩ (.int .u64 a0)).setCell ⟨gx, 1, none⟩ (.int .u64 a1)) from (below_set (j := 1) (v := (.int .u64 a1)) (below_set (j := 0) (v := (.int .u64 a0)) HBn.out GX.out) GX.out))
 clear BXn BRn HBn hc0_ hf0_ hc1_ hf1_
 generalize ((w4.setCell ⟨gx, 0, none⟩ (.int .u64 a0)).setCell ⟨gx, 1, none⟩ (.int .u64 a1)) = v4 at BX BR HB ⊢
 have BX := ak_ (show v4.heap[gx]? = some (.cells #[.int .u64 a0, .int .u64 a1, .int .i64 128, .int .u32 p, .int .u32 v, .int .i64 (-1)] 58 (0, 0)) from BX.out)
 have h0_ := (blk_cell BX.out 0).trans rfl
 have h1_ := (blk_cell BX.out 1).trans rfl
 have h2_ := (blk_cell BX.out 2).trans rfl
 go_wp2_with (first | (go_at_call 89; refine (addr_Sound.calls k a0 a1 128 false _ HS.out).mono ?_; rintro e w5 ⟨rfl, hb⟩; have HBn := ak_ (below_step HB.out hb); clear hb) | (go_at_call 81; refine (must_bad 130 (by decide) _).mono ?_; rintro e w6 ⟨rfl, hb⟩; have HBe := ak_ (below_step HBn.out hb); clear hb))
 exact ⟨rfl, rfl, HBe.out⟩
set_option maxHeartbeats 8000000 in
set_option maxRecDepth 100000 in
theorem opt6_readInner.other_el (k : Nat) (kind : Int) (hk4 : (kind == 4) = false) (data head : ByteArray) (p v : Int) (pb vb : Bool) (a0 a1 : Int) (ab : Bool) (l : List S42) (c : Int) (el : Int) (hel : (el != 0) = true) (w : World) (hcut : octet_Cut.f data 0 24 = some (head, true)) (hp : octet_Get32.f k head 16 = some (p, pb)) (hv : octet_Get32.f k head 20 = some (v, vb)) (ha : octet_GetAddr.f k head 0 = some (a0, a1, ab)) (hs : addr_Sound.f k a0 a1 128 = some true) (hsz : 24 ≤ data.size) (hl : opt6_Parse.f k (data.extract 24 data.size) = some (l, el)) :
 Calls Try.prog 83 #[.int .i64 kind, .string data] w fun e w' => e = .panicked [{ v := fault el, recovered := false }] ∧ Below w.heap.size w w' := by
 have HCUT := ak_ hcut
 have HP := ak_ hp
 have HV := ak_ hv
 have HA := ak_ ha
 have HS := ak_ hs
 have HL := ak_ hl
 have hu76 := Try.underlying58
 have hu74 := Try.underlying56
 have hu40 := Try.underlying42
 have hi76 : (Try.prog.info? 58).map (·.size) = some 6 := by kernel_rfl
 have hi74 : (Try.prog.info? 56).map (·.size) = some 3 := by kernel_rfl
 clear hcut hp hv ha hs hl
 go_enter Try.func83, Try.ntmps83
 go_upto_region 5 with fail
 have BR := ak_ (blk_alloc (blk_new w (.cells #[.int .u64 0, .int .u64 0, .int .i64 0, .int .u32 0, .int .u32 0, .int .i64 0] 58)) (.cells #[.int .u64 0, .int .u64 0, .int .i64 128, .int .u32 0, .int .u32 0, .int .i64 (-1)] 58))
 have bx := blk_new (w.alloc (.cells #[.int .u64 0, .int .u64 0, .int .i64 0, .int .u32 0, .int .u32 0, .int .i64 0] 58)) (.cells #[.int .u64 0, .int .u64 0, .int .i64 128, .int .u32 0, .int .u32 0, .int .i64 (-1)] 58)
 rw [World.size_alloc] at bx
 have BX := ak_ bx
 have HB := ak_ (below_alloc (below_alloc (Below.refl _ w) (.cells #[.int .u64 0, .int .u64 0, .int .i64 0, .int .u32 0, .int .u32 0, .int .i64 0] 58)) (.cells #[.int .u64 0, .int .u64 0, .int .i64 128, .int .u32 0, .int .u32 0, .int .i64 (-1)] 58))
 clear bx
 generalize (w.alloc (.cells #[.int .u64 0, .int .u64 0, .int .i64 0, .int .u32 0, .int .u32 0, .int .i64 0] 58)).alloc (.cells #[.int .u64 0, .int .u64 0, .int .i64 128, .int .u32 0, .int .u32 0, .int .i64 (-1)] 58) = w0 at BR BX HB ⊢
 obtain ⟨gr, hgr⟩ : ∃ gr, gr = w.heap.size := ⟨_, rfl⟩
 have HGR := ak_ hgr
 obtain ⟨gx, hgx⟩ : ∃ gx, gx = w.heap.size + 1 := ⟨_, rfl⟩
 have GX := ak_ (show w.heap.size ≤ gx by omega)
 have GRX := ak_ (show gr ≠ gx by omega)
 rw [← hgx] at BX ⊢
 have BR := ak_ (show w0.heap[gr]? = some (.cells #[.int .u64 0, .int .u64 0, .int .i64 0, .int .u32 0, .int .u32 0, .int .i64 0] 58 (0, 0)) by rw [hgr]; exact BR.out)
 clear hgr hgx
 go_upto_region 6 with (go_at_call 80; refine (ahead_ok data 24 head _ HCUT.out).mono ?_; rintro e w1 ⟨rfl, hb⟩; have BXn := ak_ (blk_below BX.out hb); have BRn := ak_ (blk_below BR.out hb); have HBn := ak_ (below_step HB.out hb); clear hb)
 clear BX BR HB
 have BX := BXn
 have BR := BRn
 have HB := HBn
 clear BXn BRn HBn
 go_upto_region 7 with (go_at_call 29; refine (octet_Get32.calls k head 16 p pb _ HP.out).mono ?_; rintro e w2 ⟨rfl, hb⟩; have BXn := ak_ (blk_below BX.out hb); have BRn := ak_ (blk_below BR.out hb); have HBn := ak_ (below_step HB.out hb); have hc3_ := (blk_cell BXn.out 3).trans rfl; have hf3_ := blk_frozen BXn.out 3; clear hb)
 clear BX BR HB
 have BX := ak_ (blk_put BXn.out 3 (.int .u32 p) rfl)
 have BR := ak_ (blk_far BRn.out (p := ⟨gx, 3, none⟩) GRX.out (.int .u32 p))
 have HB := ak_ (show Below w.heap.size w (w2.setCell ⟨gx, 3, none⟩ (.int .u32 p)) from (below_set (j := 3) (v := (.int .u32 p)) HBn.out GX.out))
 clear BXn BRn HBn hc3_ hf3_
 generalize (w2.setCell ⟨gx, 3, none⟩ (.int .u32 p)) = v2 at BX BR HB ⊢
 go_upto_region 8 with (go_at_call 29; refine (octet_Get32.calls k head 20 v vb _ HV.out).mono ?_; rintro e w3 ⟨rfl, hb⟩; have BXn := ak_ (blk_below BX.out hb); have BRn := ak_ (blk_below BR.out hb); have HBn := ak_ (below_step HB.out hb); have hc4_ := (blk_cell BXn.out 4).trans rfl; have hf4_ := blk_frozen BXn.out 4; clear hb)
 clear BX BR HB
 have BX := ak_ (blk_put BXn.out 4 (.int .u32 v) rfl)
 have BR := ak_ (blk_far BRn.out (p := ⟨gx, 4, none⟩) GRX.out (.int .u32 v))
 have HB := ak_ (show Below w.heap.size w (w3.setCell ⟨gx, 4, none⟩ (.int .u32 v)) from (below_set (j := 4) (v := (.int .u32 v)) HBn.out GX.out))
 clear BXn BRn HBn hc4_ hf4_
 generalize (w3.setCell ⟨gx, 4, none⟩ (.int .u32 v)) = v3 at BX BR HB ⊢
 go_upto_region 9 with (go_at_call 95; refine (octet_GetAddr.calls k head 0 a0 a1 ab _ HA.out).mono ?_; rintro e w4 ⟨rfl, hb⟩; have BXn := ak_ (blk_below BX.out hb); have BRn := ak_ (blk_below BR.out hb); have HBn := ak_ (below_step HB.out hb); have hc0_ := (blk_cell BXn.out 0).trans rfl; have hf0_ := blk_frozen BXn.out 0; have hc1_ := (blk_cell BXn.out 1).trans rfl; have hf1_ := blk_frozen BXn.out 1; clear hb)
 clear BX BR HB
 have BX := ak_ (blk_put (blk_put BXn.out 0 (.int .u64 a0) rfl) 1 (.int .u64 a1) rfl)
 have BR := ak_ (blk_far (blk_far BRn.out (p := ⟨gx, 0, none⟩) GRX.out (.int .u64 a0)) (p := ⟨gx, 1, none⟩) GRX.out (.int .u64 a1))
 have HB := ak_ (show Below w.heap.size w ((w4.setCell ⟨gx, 0, none⟩ (.int .u64 a0)).setCell ⟨gx, 1, none⟩ (.int .u64 a1)) from (below_set (j := 1) (v := (.int .u64 a1)) (below_set (j := 0) (v := (.int .u64 a0)) HBn.out GX.out) GX.out))
 clear BXn BRn HBn hc0_ hf0_ hc1_ hf1_
 generalize ((w4.setCell ⟨gx, 0, none⟩ (.int .u64 a0)).setCell ⟨gx, 1, none⟩ (.int .u64 a1)) = v4 at BX BR HB ⊢
 have BX := ak_ (show v4.heap[gx]? = some (.cells #[.int .u64 a0, .int .u64 a1, .int .i64 128, .int .u32 p, .int .u32 v, .int .i64 (-1)] 58 (0, 0)) from BX.out)
 have h0_ := (blk_cell BX.out 0).trans rfl
 have h1_ := (blk_cell BX.out 1).trans rfl
 have h2_ := (blk_cell BX.out 2).trans rfl
 go_upto_region 13 with (go_at_call 89; refine (addr_Sound.calls k a0 a1 128 true _ HS.out).mono ?_; rintro e w5 ⟨rfl, hb⟩; have BXn := ak_ (blk_below BX.out hb); have BRn := ak_ (blk_below BR.out hb); have HBn := ak_ (below_step HB.out hb); clear hb)
 clear BX BR HB h0_ h1_ h2_
 have z1 : (24 ≤ data.size) = True := eq_true hsz
 have z2 : ((24 : Int) ≤ (data.size : Int)) = True := eq_true (by omega)
 have GXL := ak_ (blk_lt BXn.out)
 go_wp2_with (first | (go_at_call 19; refine (opt6_Parse.calls k _ l el _ HL.out).mono ?_; rintro e w6 ⟨v0, rfl, hor, hb⟩; have HBp := ak_ (below_step HBn.out hb); clear hb hor) | (go_at_call 81; refine (must_bad el hel _).mono ?_; rintro e w7 ⟨rfl, hb⟩; have HBe := ak_ (below_step HBp.out hb); clear hb))
 exact ⟨rfl, rfl, HBe.out⟩
set_option maxHeartbeats 8000000 in
set_option maxRecDepth 100000 in
theorem opt6_readInner.other_et (k : Nat) (kind : Int) (hk4 : (kind == 4) = false) (data head : ByteArray) (p v : Int) (pb vb : Bool) (a0 a1 : Int) (ab : Bool) (l : List S42) (c : Int) (w : World) (hcut : octet_Cut.f data 0 24 = some (head, true)) (hp : octet_Get32.f k head 16 = some (p, pb)) (hv : octet_Get32.f k head 20 = some (v, vb)) (ha : octet_GetAddr.f k head 0 = some (a0, a1, ab)) (hs : addr_Sound.f k a0 a1 128 = some true) (hsz : 24 ≤ data.size) (hl : opt6_Parse.f k (data.extract 24 data.size) = some (l, 0)) (hst : statS k l (-1) = some none) :
 Calls Try.prog 83 #[.int .i64 kind, .string data] w fun e w' => e = .panicked [{ v := fault 130, recovered := false }] ∧ Below w.heap.size w w' := by
 have HCUT := ak_ hcut
 have HP := ak_ hp
 have HV := ak_ hv
 have HA := ak_ ha
 have HS := ak_ hs
 have HL := ak_ hl
 have HST := ak_ hst
 have hu76 := Try.underlying58
 have hu74 := Try.underlying56
 have hu40 := Try.underlying42
 have hi76 : (Try.prog.info? 58).map (·.size) = some 6 := by kernel_rfl
 have hi74 : (Try.prog.info? 56).map (·.size) = some 3 := by kernel_rfl
 clear hcut hp hv ha hs hl hst
 go_enter Try.func83, Try.ntmps83
 go_upto_region 5 with fail
 have BR := ak_ (blk_alloc (blk_new w (.cells #[.int .u64 0, .int .u64 0, .int .i64 0, .int .u32 0, .int .u32 0, .int .i64 0] 58)) (.cells #[.int .u64 0, .int .u64 0, .int .i64 128, .int .u32 0, .int .u32 0, .int .i64 (-1)] 58))
 have bx := blk_new (w.alloc (.cells #[.int .u64 0, .int .u64 0, .int .i64 0, .int .u32 0, .int .u32 0, .int .i64 0] 58)) (.cells #[.int .u64 0, .int .u64 0, .int .i64 128, .int .u32 0, .int .u32 0, .int .i64 (-1)] 58)
 rw [World.size_alloc] at bx
 have BX := ak_ bx
 have HB := ak_ (below_alloc (below_alloc (Below.refl _ w) (.cells #[.int .u64 0, .int .u64 0, .int .i64 0, .int .u32 0, .int .u32 0, .int .i64 0] 58)) (.cells #[.int .u64 0, .int .u64 0, .int .i64 128, .int .u32 0, .int .u32 0, .int .i64 (-1)] 58))
 clear bx
 generalize (w.alloc (.cells #[.int .u64 0, .int .u64 0, .int .i64 0, .int .u32 0, .int .u32 0, .int .i64 0] 58)).alloc (.cells #[.int .u64 0, .int .u64 0, .int .i64 128, .int .u32 0, .int .u32 0, .int .i64 (-1)] 58) = w0 at BR BX HB ⊢
 obtain ⟨gr, hgr⟩ : ∃ gr, gr = w.heap.size := ⟨_, rfl⟩
 have HGR := ak_ hgr
 obtain ⟨gx, hgx⟩ : ∃ gx, gx = w.heap.size + 1 := ⟨_, rfl⟩
 have GX := ak_ (show w.heap.size ≤ gx by omega)
 have GRX := ak_ (show gr ≠ gx by omega)
 rw [← hgx] at BX ⊢
 have BR := ak_ (show w0.heap[gr]? = some (.cells #[.int .u64 0, .int .u64 0, .int .i64 0, .int .u32 0, .int .u32 0, .int .i64 0] 58 (0, 0)) by rw [hgr]; exact BR.out)
 clear hgr hgx
 go_upto_region 6 with (go_at_call 80; refine (ahead_ok data 24 head _ HCUT.out).mono ?_; rintro e w1 ⟨rfl, hb⟩; have BXn := ak_ (blk_below BX.out hb); have BRn := ak_ (blk_below BR.out hb); have HBn := ak_ (below_step HB.out hb); clear hb)
 clear BX BR HB
 have BX := BXn
 have BR := BRn
 have HB := HBn
 clear BXn BRn HBn
 go_upto_region 7 with (go_at_call 29; refine (octet_Get32.calls k head 16 p pb _ HP.out).mono ?_; rintro e w2 ⟨rfl, hb⟩; have BXn := ak_ (blk_below BX.out hb); have BRn := ak_ (blk_below BR.out hb); have HBn := ak_ (below_step HB.out hb); have hc3_ := (blk_cell BXn.out 3).trans rfl; have hf3_ := blk_frozen BXn.out 3; clear hb)
 clear BX BR HB
 have BX := ak_ (blk_put BXn.out 3 (.int .u32 p) rfl)
 have BR := ak_ (blk_far BRn.out (p := ⟨gx, 3, none⟩) GRX.out (.int .u32 p))
 have HB := ak_ (show Below w.heap.size w (w2.setCell ⟨gx, 3, none⟩ (.int .u32 p)) from (below_set (j := 3) (v := (.int .u32 p)) HBn.out GX.out))
 clear BXn BRn HBn hc3_ hf3_
 generalize (w2.setCell ⟨gx, 3, none⟩ (.int .u32 p)) = v2 at BX BR HB ⊢
 go_upto_region 8 with (go_at_call 29; refine (octet_Get32.calls k head 20 v vb _ HV.out).mono ?_; rintro e w3 ⟨rfl, hb⟩; have BXn := ak_ (blk_below BX.out hb); have BRn := ak_ (blk_below BR.out hb); have HBn := ak_ (below_step HB.out hb); have hc4_ := (blk_cell BXn.out 4).trans rfl; have hf4_ := blk_frozen BXn.out 4; clear hb)
 clear BX BR HB
 have BX := ak_ (blk_put BXn.out 4 (.int .u32 v) rfl)
 have BR := ak_ (blk_far BRn.out (p := ⟨gx, 4, none⟩) GRX.out (.int .u32 v))
 have HB := ak_ (show Below w.heap.size w (w3.setCell ⟨gx, 4, none⟩ (.int .u32 v)) from (below_set (j := 4) (v := (.int .u32 v)) HBn.out GX.out))
 clear BXn BRn HBn hc4_ hf4_
 generalize (w3.setCell ⟨gx, 4, none⟩ (.int .u32 v)) = v3 at BX BR HB ⊢
 go_upto_region 9 with (go_at_call 95; refine (octet_GetAddr.calls k head 0 a0 a1 ab _ HA.out).mono ?_; rintro e w4 ⟨rfl, hb⟩; have BXn := ak_ (blk_below BX.out hb); have BRn := ak_ (blk_below BR.out hb); have HBn := ak_ (below_step HB.out hb); have hc0_ := (blk_cell BXn.out 0).trans rfl; have hf0_ := blk_frozen BXn.out 0; have hc1_ := (blk_cell BXn.out 1).trans rfl; have hf1_ := blk_frozen BXn.out 1; clear hb)
 clear BX BR HB
 have BX := ak_ (blk_put (blk_put BXn.out 0 (.int .u64 a0) rfl) 1 (.int .u64 a1) rfl)
 have BR := ak_ (blk_far (blk_far BRn.out (p := ⟨gx, 0, none⟩) GRX.out (.int .u64 a0)) (p := ⟨gx, 1, none⟩) GRX.out (.int .u64 a1))
 have HB := ak_ (show Below w.heap.size w ((w4.setCell ⟨gx, 0, none⟩ (.int .u64 a0)).setCell ⟨gx, 1, none⟩ (.int .u64 a1)) from (below_set (j := 1) (v := (.int .u64 a1)) (below_set (j := 0) (v := (.int .u64 a0)) HBn.out GX.out) GX.out))
 clear BXn BRn HBn hc0_ hf0_ hc1_ hf1_
 generalize ((w4.setCell ⟨gx, 0, none⟩ (.int .u64 a0)).setCell ⟨gx, 1, none⟩ (.int .u64 a1)) = v4 at BX BR HB ⊢
 have BX := ak_ (show v4.heap[gx]? = some (.cells #[.int .u64 a0, .int .u64 a1, .int .i64 128, .int .u32 p, .int .u32 v, .int .i64 (-1)] 58 (0, 0)) from BX.out)
 have h0_ := (blk_cell BX.out 0).trans rfl
 have h1_ := (blk_cell BX.out 1).trans rfl
 have h2_ := (blk_cell BX.out 2).trans rfl
 go_upto_region 13 with (go_at_call 89; refine (addr_Sound.calls k a0 a1 128 true _ HS.out).mono ?_; rintro e w5 ⟨rfl, hb⟩; have BXn := ak_ (blk_below BX.out hb); have BRn := ak_ (blk_below BR.out hb); have HBn := ak_ (below_step HB.out hb); clear hb)
 clear BX BR HB h0_ h1_ h2_
 have z1 : (24 ≤ data.size) = True := eq_true hsz
 have z2 : ((24 : Int) ≤ (data.size : Int)) = True := eq_true (by omega)
 have GXL := ak_ (blk_lt BXn.out)
 go_upto_region 15 with (first | (go_at_call 19; refine (opt6_Parse.calls k _ l 0 _ HL.out).mono ?_; rintro e w6 ⟨v0, rfl, hor, hb⟩; have BXp := ak_ (blk_below BXn.out hb); have BRp := ak_ (blk_below BRn.out hb); have HBp := ak_ (below_step HBn.out hb); have HOR := ak_ (Kd.R_mono (ok' := fun k => w5.heap.size ≤ k) (Kd.R_bound hor) (fun k hk => hk.2.1)); clear hb hor) | (go_at_call 81; refine (must_ok _).mono ?_; rintro e w7 ⟨rfl, hb⟩; have BX := ak_ (blk_below BXp.out hb); have BR := ak_ (blk_below BRp.out hb); have HB := ak_ (below_step HBp.out hb); have HO := ak_ (Kd.R_below HOR.out hb); clear hb))
 clear BXn BRn HBn BXp BRp HBp HOR z1 z2 hsz
 obtain ⟨Al, cl, rfl⟩ := Kd.R_slice HO.out
 obtain ⟨n, hn⟩ : ∃ n, n = l.length := ⟨_, rfl⟩
 have HN := ak_ hn
 rw [← hn]
 rw [← hn] at HO
 clear hn
 generalize hB : w5.heap.size = B at HO GXL
 clear hB
 go_upto_region 16 with fail
 have h := HST.out
 go_loopg [13, 67] n (fun gg _ s67 wr => ∃ (kk : Nat) (cur : Int), Aside0 (kk ≤ n ∧ n - kk ≤ gg) ∧ s67 = .int .i64 kk ∧ Aside0 (wr.heap[gx]? = some (.cells #[.int .u64 a0, .int .u64 a1, .int .i64 128, .int .u32 p, .int .u32 v, .int .i64 cur] 58 (0, 0))) ∧ Aside0 (wr.heap[gr]? = some (.cells #[.int .u64 0, .int .u64 0, .int .i64 0, .int .u32 0, .int .u32 0, .int .i64 0] 58 (0, 0))) ∧ Aside0 (Below w.heap.size w wr) ∧ Aside0 (Kd.R k42 42 wr B (fun k => B ≤ k) (.slice Al n cl) l) ∧ Aside0 (statS k (l.drop kk) cur = some none))
 case atStart => exact ⟨0, -1, ⟨Nat.zero_le _, Nat.le_refl _⟩, rfl, BX, BR, HB, HO, by rw [List.drop_zero]; exact HST⟩
 case round =>
 clear BX BR HB HO h HST
 obtain ⟨kk, cur, HK, rfl, BX, BR, HB, HO, HS⟩ := hrel
 have hC := (Kd.R_reads' HO.out).2.2
 have HMX := ak_ (show n ≤ 9223372036854775807 by have := Kd.C_max hC; have := HN.out; omega)
 by_cases hlt : kk < n
 ·obtain ⟨ad, hA, hx0, hx1⟩ := at_T42 hC (kk : Int) (by omega) (by have := HN.out; omega)
  subst hA
  simp only [Int.toNat_natCast] at hx0 hx1
  have hd : l.drop kk = (rd_T42 l (kk : Int)) :: l.drop (kk + 1) := by
   have hlt' : kk < l.length := by have := HN.out; omega
   rw [List.drop_eq_getElem_cons hlt']
   simp [rd_T42, List.getD_eq_getElem?_getD, List.getElem?_eq_getElem hlt']
  have h := HS.out
  rw [hd, statS] at h
  obtain ⟨x, hx⟩ : ∃ x, x = rd_T42 l (kk : Int) := ⟨_, rfl⟩
  rw [← hx] at h hx0 hx1
  clear hd hx HS hC
  obtain ⟨x0, x1⟩ := x
  dsimp only at h hx0 hx1
  have HLT := ak_ hlt
  have hltz : (kk : Int) < (n : Int) := by omega
  by_cases h13 : x0 = 13
  ·rw [if_pos h13] at h
   obtain ⟨⟨cc, ok⟩, hg, h⟩ := Option.bind_eq_some_iff.1 h
   dsimp only at h
   cases ok with
   | false =>
    have HG := ak_ hg
    have hb13 : (x0 == 13) = true := by simpa using h13
    clear hg h13 h
    go_wp2_with (go_at_call 82; refine (take_bad k _ x0 x1 cc _ HG.out).mono ?_; rintro e w9 ⟨rfl, hb⟩; have HB9 := ak_ (below_step (below_alloc HB.out _) hb); clear hb)
    exact ⟨rfl, rfl, HB9.out⟩
   | true =>
   rw [if_pos rfl] at h
   have HG := ak_ hg
   have hb13 : (x0 == 13) = true := by simpa using h13
   clear hg h13
   by_cases hcur : cur = -1
   ·rw [if_pos hcur] at h
    have H' := ak_ h
    clear h
    go_wp2_with (go_at_call 82; refine (take_ok k gx 5 cur x0 x1 cc _ ((blk_cell (blk_alloc BX.out _) 5).trans rfl) (blk_frozen (blk_alloc BX.out _) 5) HG.out).mono ?_; rintro e w9 ⟨rfl, w1, hb, hw⟩; rw [if_pos hcur] at hw; subst hw; have BX9 := ak_ (blk_put (blk_below (blk_alloc BX.out (.cells #[.int .u16 x0, .string x1] 42)) hb) 5 (.int .i64 cc) rfl); have BR9 := ak_ (blk_far (blk_below (blk_alloc BR.out (.cells #[.int .u16 x0, .string x1] 42)) hb) (p := ⟨gx, 5, none⟩) GRX.out (.int .i64 cc)); have HB9 := ak_ (show Below w.heap.size w (w1.setCell ⟨gx, 5, none⟩ (.int .i64 cc)) from below_set (below_step (below_alloc HB.out _) hb) GX.out); have HO9 := ak_ (Kd.R_far (Kd.R_below (Kd.R_alloc HO.out (.cells #[.int .u16 x0, .string x1] 42)) hb) (p := ⟨gx, 5, none⟩) (fun q hq => Nat.ne_of_gt (Nat.lt_of_lt_of_le GXL.out hq)) (.int .i64 cc)); clear hb)
    go_roundg (n - (kk + 1))
    case measure => have := HK.out; have := HLT.out; omega
    case rel => exact ⟨kk + 1, cc, ⟨by have := HLT.out; omega, Nat.le_refl _⟩, by rw [Go.IntWalk.wrap64_in _ (by have := HLT.out; have := HMX.out; omega)]; rfl, BX9, BR9, HB9, HO9, H'⟩
   rw [if_neg hcur] at h
   have H' := ak_ h
   clear h
   go_wp2_with (go_at_call 82; refine (take_ok k gx 5 cur x0 x1 cc _ ((blk_cell (blk_alloc BX.out _) 5).trans rfl) (blk_frozen (blk_alloc BX.out _) 5) HG.out).mono ?_; rintro e w9 ⟨rfl, w1, hb, hw⟩; rw [if_neg hcur] at hw; subst hw; have BX9 := ak_ (blk_below (blk_alloc BX.out (.cells #[.int .u16 x0, .string x1] 42)) hb); have BR9 := ak_ (blk_below (blk_alloc BR.out (.cells #[.int .u16 x0, .string x1] 42)) hb); have HB9 := ak_ (below_step (below_alloc HB.out _) hb); have HO9 := ak_ (Kd.R_below (Kd.R_alloc HO.out (.cells #[.int .u16 x0, .string x1] 42)) hb); clear hb)
   go_roundg (n - (kk + 1))
   case measure => have := HK.out; have := HLT.out; omega
   case rel => exact ⟨kk + 1, cur, ⟨by have := HLT.out; omega, Nat.le_refl _⟩, by rw [Go.IntWalk.wrap64_in _ (by have := HLT.out; have := HMX.out; omega)]; rfl, BX9, BR9, HB9, HO9, H'⟩
  rw [if_neg h13] at h
  have H' := ak_ h
  have hb13 : (x0 == 13) = false := by simpa using h13
  clear h h13
  go_wp2
  go_roundg (n - (kk + 1))
  case measure => have := HK.out; have := HLT.out; omega
  case rel => exact ⟨kk + 1, cur, ⟨by have := HLT.out; omega, Nat.le_refl _⟩, by rw [Go.IntWalk.wrap64_in _ (by have := HLT.out; have := HMX.out; omega)]; rfl, ⟨blk_alloc BX.out _⟩, ⟨blk_alloc BR.out _⟩, ⟨below_alloc HB.out _⟩, ⟨Kd.R_alloc HO.out _⟩, H'⟩
 obtain rfl : kk = n := by have := HK.out; omega
 have h := HS.out
 rw [HN.out, List.drop_length, statS] at h
 exact absurd (Option.some.inj h) (by simp)
set_option maxHeartbeats 8000000 in
set_option maxRecDepth 100000 in
theorem opt6_readInner.deleg_ok (k : Nat) (data head : ByteArray) (p v : Int) (pb vb : Bool) (a0 a1 : Int) (ab : Bool) (l : List S42) (c : Int) (h8 : 8 < head.size) (bits : Int) (hbits : wrap64 ((head[8]'h8).toNat : Int) = bits) (w : World) (hcut : octet_Cut.f data 0 25 = some (head, true)) (hp : octet_Get32.f k head 0 = some (p, pb)) (hv : octet_Get32.f k head 4 = some (v, vb)) (ha : octet_GetAddr.f k head 9 = some (a0, a1, ab)) (hs : addr_Sound.f k a0 a1 bits = some true) (hsz : 25 ≤ data.size) (hl : opt6_Parse.f k (data.extract 25 data.size) = some (l, 0)) (hst : statS k l (-1) = some (some c)) :
 Calls Try.prog 83 #[.int .i64 4, .string data] w fun e w' => e = .returned (.agg #[.int .u64 a0, .int .u64 a1, .int .i64 bits, .int .u32 p, .int .u32 v, .int .i64 c]) ∧ Below w.heap.size w w' := by
 have HCUT := ak_ hcut
 have HP := ak_ hp
 have HV := ak_ hv
 have HA := ak_ ha
 have HS := ak_ hs
 have HL := ak_ hl
 have HST := ak_ hst
 have hu76 := Try.underlying58
 have hu74 := Try.underlying56
 have hu40 := Try.underlying42
 have hi76 : (Try.prog.info? 58).map (·.size) = some 6 := by kernel_rfl
 have hi74 : (Try.prog.info? 56).map (·.size) = some 3 := by kernel_rfl
 clear hcut hp hv ha hs hl hst
 go_enter Try.func83, Try.ntmps83
 go_upto_region 5 with fail
 have BR := ak_ (blk_alloc (blk_new w (.cells #[.int .u64 0, .int .u64 0, .int .i64 0, .int .u32 0, .int .u32 0, .int .i64 0] 58)) (.cells #[.int .u64 0, .int .u64 0, .int .i64 128, .int .u32 0, .int .u32 0, .int .i64 (-1)] 58))
 have bx := blk_new (w.alloc (.cells #[.int .u64 0, .int .u64 0, .int .i64 0, .int .u32 0, .int .u32 0, .int .i64 0] 58)) (.cells #[.int .u64 0, .int .u64 0, .int .i64 128, .int .u32 0, .int .u32 0, .int .i64 (-1)] 58)
 rw [World.size_alloc] at bx
 have BX := ak_ bx
 have HB := ak_ (below_alloc (below_alloc (Below.refl _ w) (.cells #[.int .u64 0, .int .u64 0, .int .i64 0, .int .u32 0, .int .u32 0, .int .i64 0] 58)) (.cells #[.int .u64 0, .int .u64 0, .int .i64 128, .int .u32 0, .int .u32 0, .int .i64 (-1)] 58))
 clear bx
 generalize (w.alloc (.cells #[.int .u64 0, .int .u64 0, .int .i64 0, .int .u32 0, .int .u32 0, .int .i64 0] 58)).alloc (.cells #[.int .u64 0, .int .u64 0, .int .i64 128, .int .u32 0, .int .u32 0, .int .i64 (-1)] 58) = w0 at BR BX HB ⊢
 obtain ⟨gr, hgr⟩ : ∃ gr, gr = w.heap.size := ⟨_, rfl⟩
 have HGR := ak_ hgr
 obtain ⟨gx, hgx⟩ : ∃ gx, gx = w.heap.size + 1 := ⟨_, rfl⟩
 have GX := ak_ (show w.heap.size ≤ gx by omega)
 have GRX := ak_ (show gr ≠ gx by omega)
 rw [← hgx] at BX ⊢
 have BR := ak_ (show w0.heap[gr]? = some (.cells #[.int .u64 0, .int .u64 0, .int .i64 0, .int .u32 0, .int .u32 0, .int .i64 0] 58 (0, 0)) by rw [hgr]; exact BR.out)
 clear hgr hgx
 go_upto_region 6 with (go_at_call 80; refine (ahead_ok data 25 head _ HCUT.out).mono ?_; rintro e w1 ⟨rfl, hb⟩; have BXn := ak_ (blk_below BX.out hb); have BRn := ak_ (blk_below BR.out hb); have HBn := ak_ (below_step HB.out hb); clear hb)
 clear BX BR HB
 have BX := BXn
 have BR := BRn
 have HB := HBn
 clear BXn BRn HBn
 go_upto_region 7 with (go_at_call 29; refine (octet_Get32.calls k head 0 p pb _ HP.out).mono ?_; rintro e w2 ⟨rfl, hb⟩; have BXn := ak_ (blk_below BX.out hb); have BRn := ak_ (blk_below BR.out hb); have HBn := ak_ (below_step HB.out hb); have hc3_ := (blk_cell BXn.out 3).trans rfl; have hf3_ := blk_frozen BXn.out 3; clear hb)
 clear BX BR HB
 have BX := ak_ (blk_put BXn.out 3 (.int .u32 p) rfl)
 have BR := ak_ (blk_far BRn.out (p := ⟨gx, 3, none⟩) GRX.out (.int .u32 p))
 have HB := ak_ (show Below w.heap.size w (w2.setCell ⟨gx, 3, none⟩ (.int .u32 p)) from (below_set (j := 3) (v := (.int .u32 p)) HBn.out GX.out))
 clear BXn BRn HBn hc3_ hf3_
 generalize (w2.setCell ⟨gx, 3, none⟩ (.int .u32 p)) = v2 at BX BR HB ⊢
 go_upto_region 8 with (go_at_call 29; refine (octet_Get32.calls k head 4 v vb _ HV.out).mono ?_; rintro e w3 ⟨rfl, hb⟩; have BXn := ak_ (blk_below BX.out hb); have BRn := ak_ (blk_below BR.out hb); have HBn := ak_ (below_step HB.out hb); have hc4_ := (blk_cell BXn.out 4).trans rfl; have hf4_ := blk_frozen BXn.out 4; clear hb)
 clear BX BR HB
 have BX := ak_ (blk_put BXn.out 4 (.int .u32 v) rfl)
 have BR := ak_ (blk_far BRn.out (p := ⟨gx, 4, none⟩) GRX.out (.int .u32 v))
 have HB := ak_ (show Below w.heap.size w (w3.setCell ⟨gx, 4, none⟩ (.int .u32 v)) from (below_set (j := 4) (v := (.int .u32 v)) HBn.out GX.out))
 clear BXn BRn HBn hc4_ hf4_
 generalize (w3.setCell ⟨gx, 4, none⟩ (.int .u32 v)) = v3 at BX BR HB ⊢
 go_upto_region 9 with (go_at_call 95; refine (octet_GetAddr.calls k head 9 a0 a1 ab _ HA.out).mono ?_; rintro e w4 ⟨rfl, hb⟩; have BXn := ak_ (blk_below BX.out hb); have BRn := ak_ (blk_below BR.out hb); have HBn := ak_ (below_step HB.out hb); have hc0_ := (blk_cell BXn.out 0).trans rfl; have hf0_ := blk_frozen BXn.out 0; have hc1_ := (blk_cell BXn.out 1).trans rfl; have hf1_ := blk_frozen BXn.out 1; clear hb)
 clear BX BR HB
 have BX := ak_ (blk_put (blk_put BXn.out 0 (.int .u64 a0) rfl) 1 (.int .u64 a1) rfl)
 have BR := ak_ (blk_far (blk_far BRn.out (p := ⟨gx, 0, none⟩) GRX.out (.int .u64 a0)) (p := ⟨gx, 1, none⟩) GRX.out (.int .u64 a1))
 have HB := ak_ (show Below w.heap.size w ((w4.setCell ⟨gx, 0, none⟩ (.int .u64 a0)).setCell ⟨gx, 1, none⟩ (.int .u64 a1)) from (below_set (j := 1) (v := (.int .u64 a1)) (below_set (j := 0) (v := (.int .u64 a0)) HBn.out GX.out) GX.out))
 clear BXn BRn HBn hc0_ hf0_ hc1_ hf1_
 generalize ((w4.setCell ⟨gx, 0, none⟩ (.int .u64 a0)).setCell ⟨gx, 1, none⟩ (.int .u64 a1)) = v4 at BX BR HB ⊢
 have BX := ak_ (show v4.heap[gx]? = some (.cells #[.int .u64 a0, .int .u64 a1, .int .i64 128, .int .u32 p, .int .u32 v, .int .i64 (-1)] 58 (0, 0)) from BX.out)
 have hi8 : (8 < head.size) = True := eq_true h8
 have hi8z : ((8 : Int) < (head.size : Int)) = True := eq_true (by omega)
 have hc2_ := (blk_cell BX.out 2).trans rfl
 have hf2_ := blk_frozen BX.out 2
 go_upto_region 11 with fail
 rw [hbits]
 have BX5 := ak_ (blk_put BX.out 2 (.int .i64 bits) rfl)
 have BR5 := ak_ (blk_far BR.out (p := ⟨gx, 2, none⟩) GRX.out (.int .i64 bits))
 have HB5 := ak_ (show Below w.heap.size w (v4.setCell ⟨gx, 2, none⟩ (.int .i64 bits)) from below_set HB.out GX.out)
 clear BX BR HB hc2_ hf2_ hbits
 generalize v4.setCell ⟨gx, 2, none⟩ (.int .i64 bits) = v5 at BX5 BR5 HB5 ⊢
 have BX := ak_ (show v5.heap[gx]? = some (.cells #[.int .u64 a0, .int .u64 a1, .int .i64 bits, .int .u32 p, .int .u32 v, .int .i64 (-1)] 58 (0, 0)) from BX5.out)
 have BR := BR5
 have HB := HB5
 clear BX5 BR5 HB5
 have h0_ := (blk_cell BX.out 0).trans rfl
 have h1_ := (blk_cell BX.out 1).trans rfl
 have h2_ := (blk_cell BX.out 2).trans rfl
 go_upto_region 13 with (go_at_call 89; refine (addr_Sound.calls k a0 a1 bits true _ HS.out).mono ?_; rintro e w5 ⟨rfl, hb⟩; have BXn := ak_ (blk_below BX.out hb); have BRn := ak_ (blk_below BR.out hb); have HBn := ak_ (below_step HB.out hb); clear hb)
 clear BX BR HB h0_ h1_ h2_
 have z1 : (25 ≤ data.size) = True := eq_true hsz
 have z2 : ((25 : Int) ≤ (data.size : Int)) = True := eq_true (by omega)
 have GXL := ak_ (blk_lt BXn.out)
 go_upto_region 15 with (first | (go_at_call 19; refine (opt6_Parse.calls k _ l 0 _ HL.out).mono ?_; rintro e w6 ⟨v0, rfl, hor, hb⟩; have BXp := ak_ (blk_below BXn.out hb); have BRp := ak_ (blk_below BRn.out hb); have HBp := ak_ (below_step HBn.out hb); have HOR := ak_ (Kd.R_mono (ok' := fun k => w5.heap.size ≤ k) (Kd.R_bound hor) (fun k hk => hk.2.1)); clear hb hor) | (go_at_call 81; refine (must_ok _).mono ?_; rintro e w7 ⟨rfl, hb⟩; have BX := ak_ (blk_below BXp.out hb); have BR := ak_ (blk_below BRp.out hb); have HB := ak_ (below_step HBp.out hb); have HO := ak_ (Kd.R_below HOR.out hb); clear hb))
 clear BXn BRn HBn BXp BRp HBp HOR z1 z2 hsz
 obtain ⟨Al, cl, rfl⟩ := Kd.R_slice HO.out
 obtain ⟨n, hn⟩ : ∃ n, n = l.length := ⟨_, rfl⟩
 have HN := ak_ hn
 rw [← hn]
 rw [← hn] at HO
 clear hn
 generalize hB : w5.heap.size = B at HO GXL
 clear hB
 go_upto_region 16 with fail
 have h := HST.out
 go_loopg [13, 67] n (fun gg _ s67 wr => ∃ (kk : Nat) (cur : Int), Aside0 (kk ≤ n ∧ n - kk ≤ gg) ∧ s67 = .int .i64 kk ∧ Aside0 (wr.heap[gx]? = some (.cells #[.int .u64 a0, .int .u64 a1, .int .i64 bits, .int .u32 p, .int .u32 v, .int .i64 cur] 58 (0, 0))) ∧ Aside0 (wr.heap[gr]? = some (.cells #[.int .u64 0, .int .u64 0, .int .i64 0, .int .u32 0, .int .u32 0, .int .i64 0] 58 (0, 0))) ∧ Aside0 (Below w.heap.size w wr) ∧ Aside0 (Kd.R k42 42 wr B (fun k => B ≤ k) (.slice Al n cl) l) ∧ Aside0 (statS k (l.drop kk) cur = some (some c)))
 case atStart => exact ⟨0, -1, ⟨Nat.zero_le _, Nat.le_refl _⟩, rfl, BX, BR, HB, HO, by rw [List.drop_zero]; exact HST⟩
 case round =>
 clear BX BR HB HO h HST
 obtain ⟨kk, cur, HK, rfl, BX, BR, HB, HO, HS⟩ := hrel
 have hC := (Kd.R_reads' HO.out).2.2
 have HMX := ak_ (show n ≤ 9223372036854775807 by have := Kd.C_max hC; have := HN.out; omega)
 by_cases hlt : kk < n
 ·obtain ⟨ad, hA, hx0, hx1⟩ := at_T42 hC (kk : Int) (by omega) (by have := HN.out; omega)
  subst hA
  simp only [Int.toNat_natCast] at hx0 hx1
  have hd : l.drop kk = (rd_T42 l (kk : Int)) :: l.drop (kk + 1) := by
   have hlt' : kk < l.length := by have := HN.out; omega
   rw [List.drop_eq_getElem_cons hlt']
   simp [rd_T42, List.getD_eq_getElem?_getD, List.getElem?_eq_getElem hlt']
  have h := HS.out
  rw [hd, statS] at h
  obtain ⟨x, hx⟩ : ∃ x, x = rd_T42 l (kk : Int) := ⟨_, rfl⟩
  rw [← hx] at h hx0 hx1
  clear hd hx HS hC
  obtain ⟨x0, x1⟩ := x
  dsimp only at h hx0 hx1
  have HLT := ak_ hlt
  have hltz : (kk : Int) < (n : Int) := by omega
  by_cases h13 : x0 = 13
  ·rw [if_pos h13] at h
   obtain ⟨⟨cc, ok⟩, hg, h⟩ := Option.bind_eq_some_iff.1 h
   dsimp only at h
   cases ok with
   | false => rw [if_neg (by decide)] at h; exact absurd (Option.some.inj h) (by simp)
   | true =>
   rw [if_pos rfl] at h
   have HG := ak_ hg
   have hb13 : (x0 == 13) = true := by simpa using h13
   clear hg h13
   by_cases hcur : cur = -1
   ·rw [if_pos hcur] at h
    have H' := ak_ h
    clear h
    go_wp2_with (go_at_call 82; refine (take_ok k gx 5 cur x0 x1 cc _ ((blk_cell (blk_alloc BX.out _) 5).trans rfl) (blk_frozen (blk_alloc BX.out _) 5) HG.out).mono ?_; rintro e w9 ⟨rfl, w1, hb, hw⟩; rw [if_pos hcur] at hw; subst hw; have BX9 := ak_ (blk_put (blk_below (blk_alloc BX.out (.cells #[.int .u16 x0, .string x1] 42)) hb) 5 (.int .i64 cc) rfl); have BR9 := ak_ (blk_far (blk_below (blk_alloc BR.out (.cells #[.int .u16 x0, .string x1] 42)) hb) (p := ⟨gx, 5, none⟩) GRX.out (.int .i64 cc)); have HB9 := ak_ (show Below w.heap.size w (w1.setCell ⟨gx, 5, none⟩ (.int .i64 cc)) from below_set (below_step (below_alloc HB.out _) hb) GX.out); have HO9 := ak_ (Kd.R_far (Kd.R_below (Kd.R_alloc HO.out (.cells #[.int .u16 x0, .string x1] 42)) hb) (p := ⟨gx, 5, none⟩) (fun q hq => Nat.ne_of_gt (Nat.lt_of_lt_of_le GXL.out hq)) (.int .i64 cc)); clear hb)
    go_roundg (n - (kk + 1))
    case measure => have := HK.out; have := HLT.out; omega
    case rel => exact ⟨kk + 1, cc, ⟨by have := HLT.out; omega, Nat.le_refl _⟩, by rw [Go.IntWalk.wrap64_in _ (by have := HLT.out; have := HMX.out; omega)]; rfl, BX9, BR9, HB9, HO9, H'⟩
   rw [if_neg hcur] at h
   have H' := ak_ h
   clear h
   go_wp2_with (go_at_call 82; refine (take_ok k gx 5 cur x0 x1 cc _ ((blk_cell (blk_alloc BX.out _) 5).trans rfl) (blk_frozen (blk_alloc BX.out _) 5) HG.out).mono ?_; rintro e w9 ⟨rfl, w1, hb, hw⟩; rw [if_neg hcur] at hw; subst hw; have BX9 := ak_ (blk_below (blk_alloc BX.out (.cells #[.int .u16 x0, .string x1] 42)) hb); have BR9 := ak_ (blk_below (blk_alloc BR.out (.cells #[.int .u16 x0, .string x1] 42)) hb); have HB9 := ak_ (below_step (below_alloc HB.out _) hb); have HO9 := ak_ (Kd.R_below (Kd.R_alloc HO.out (.cells #[.int .u16 x0, .string x1] 42)) hb); clear hb)
   go_roundg (n - (kk + 1))
   case measure => have := HK.out; have := HLT.out; omega
   case rel => exact ⟨kk + 1, cur, ⟨by have := HLT.out; omega, Nat.le_refl _⟩, by rw [Go.IntWalk.wrap64_in _ (by have := HLT.out; have := HMX.out; omega)]; rfl, BX9, BR9, HB9, HO9, H'⟩
  rw [if_neg h13] at h
  have H' := ak_ h
  have hb13 : (x0 == 13) = false := by simpa using h13
  clear h h13
  go_wp2
  go_roundg (n - (kk + 1))
  case measure => have := HK.out; have := HLT.out; omega
  case rel => exact ⟨kk + 1, cur, ⟨by have := HLT.out; omega, Nat.le_refl _⟩, by rw [Go.IntWalk.wrap64_in _ (by have := HLT.out; have := HMX.out; omega)]; rfl, ⟨blk_alloc BX.out _⟩, ⟨blk_alloc BR.out _⟩, ⟨below_alloc HB.out _⟩, ⟨Kd.R_alloc HO.out _⟩, H'⟩
 obtain rfl : kk = n := by have := HK.out; omega
 have h := HS.out
 rw [HN.out, List.drop_length, statS] at h
 obtain rfl : cur = c := by simpa using h
 clear h HS hC HO
 go_wp2_with (first
  | ((with_reducible refine gate_dst (N := 78) rfl ?_); refine XBox.loadL_ 78 rfl rfl 58 rfl gx rfl _ BX.out hu76 rfl hi76 ?_; simp only [Act.put, List.setIfInBounds_toArray, List.set_cons_zero, List.set_cons_succ])
  | ((with_reducible refine gate_store (p := 4) rfl ?_); rw [← HGR.out]; refine XBox.storeL_ rfl rfl 58 rfl gr rfl _ #[.int .u64 a0, .int .u64 a1, .int .i64 bits, .int .u32 p, .int .u32 v, .int .i64 cur] rfl BR.out hi76 (Eq.refl 6) (by simp [Value.oneCell']) ?_; intro wv hw1 hw2 hw3; have BV := ak_ hw1; have HV9 := ak_ (HB.out.trans (hw2 _ (by rw [HGR.out]; exact Nat.le_refl _))); clear hw1 hw2 hw3))
 exact bodyPost_ret (opt6_readInner.ends wv gr _ rfl BV.out rfl) rfl ⟨rfl, HV9.out⟩
set_option maxHeartbeats 8000000 in
set_option maxRecDepth 100000 in
theorem opt6_readInner.deleg_e3 (k : Nat) (data head : ByteArray) (p v : Int) (pb vb : Bool) (a0 a1 : Int) (ab : Bool) (l : List S42) (c : Int) (w : World) (hcut : octet_Cut.f data 0 25 = some (head, false)) :
 Calls Try.prog 83 #[.int .i64 4, .string data] w fun e w' => e = .panicked [{ v := fault 3, recovered := false }] ∧ Below w.heap.size w w' := by
 have HCUT := ak_ hcut
 have hu76 := Try.underlying58
 have hu74 := Try.underlying56
 have hu40 := Try.underlying42
 have hi76 : (Try.prog.info? 58).map (·.size) = some 6 := by kernel_rfl
 have hi74 : (Try.prog.info? 56).map (·.size) = some 3 := by kernel_rfl
 clear hcut
 go_enter Try.func83, Try.ntmps83
 go_upto_region 5 with fail
 have BR := ak_ (blk_alloc (blk_new w (.cells #[.int .u64 0, .int .u64 0, .int .i64 0, .int .u32 0, .int .u32 0, .int .i64 0] 58)) (.cells #[.int .u64 0, .int .u64 0, .int .i64 128, .int .u32 0, .int .u32 0, .int .i64 (-1)] 58))
 have bx := blk_new (w.alloc (.cells #[.int .u64 0, .int .u64 0, .int .i64 0, .int .u32 0, .int .u32 0, .int .i64 0] 58)) (.cells #[.int .u64 0, .int .u64 0, .int .i64 128, .int .u32 0, .int .u32 0, .int .i64 (-1)] 58)
 rw [World.size_alloc] at bx
 have BX := ak_ bx
 have HB := ak_ (below_alloc (below_alloc (Below.refl _ w) (.cells #[.int .u64 0, .int .u64 0, .int .i64 0, .int .u32 0, .int .u32 0, .int .i64 0] 58)) (.cells #[.int .u64 0, .int .u64 0, .int .i64 128, .int .u32 0, .int .u32 0, .int .i64 (-1)] 58))
 clear bx
 generalize (w.alloc (.cells #[.int .u64 0, .int .u64 0, .int .i64 0, .int .u32 0, .int .u32 0, .int .i64 0] 58)).alloc (.cells #[.int .u64 0, .int .u64 0, .int .i64 128, .int .u32 0, .int .u32 0, .int .i64 (-1)] 58) = w0 at BR BX HB ⊢
 obtain ⟨gr, hgr⟩ : ∃ gr, gr = w.heap.size := ⟨_, rfl⟩
 have HGR := ak_ hgr
 obtain ⟨gx, hgx⟩ : ∃ gx, gx = w.heap.size + 1 := ⟨_, rfl⟩
 have GX := ak_ (show w.heap.size ≤ gx by omega)
 have GRX := ak_ (show gr ≠ gx by omega)
 rw [← hgx] at BX ⊢
 have BR := ak_ (show w0.heap[gr]? = some (.cells #[.int .u64 0, .int .u64 0, .int .i64 0, .int .u32 0, .int .u32 0, .int .i64 0] 58 (0, 0)) by rw [hgr]; exact BR.out)
 clear hgr hgx
 go_wp2_with (go_at_call 80; refine (ahead_bad data 25 head _ HCUT.out).mono ?_; rintro e w1 ⟨rfl, hb⟩; have HBn := ak_ (below_step HB.out hb); clear hb)
 exact ⟨rfl, rfl, HBn.out⟩
set_option maxHeartbeats 8000000 in
set_option maxRecDepth 100000 in
theorem opt6_readInner.deleg_es (k : Nat) (data head : ByteArray) (p v : Int) (pb vb : Bool) (a0 a1 : Int) (ab : Bool) (l : List S42) (c : Int) (h8 : 8 < head.size) (bits : Int) (hbits : wrap64 ((head[8]'h8).toNat : Int) = bits) (w : World) (hcut : octet_Cut.f data 0 25 = some (head, true)) (hp : octet_Get32.f k head 0 = some (p, pb)) (hv : octet_Get32.f k head 4 = some (v, vb)) (ha : octet_GetAddr.f k head 9 = some (a0, a1, ab)) (hs : addr_Sound.f k a0 a1 bits = some false) :
 Calls Try.prog 83 #[.int .i64 4, .string data] w fun e w' => e = .panicked [{ v := fault 130, recovered := false }] ∧ Below w.heap.size w w' := by
 have HCUT := ak_ hcut
 have HP := ak_ hp
 have HV := ak_ hv
 have HA := ak_ ha
 have HS := ak_ hs
 have hu76 := Try.underlying58
 have hu74 := Try.underlying56
 have hu40 := Try.underlying42
 have hi76 : (Try.prog.info? 58).map (·.size) = some 6 := by kernel_rfl
 have hi74 : (Try.prog.info? 56).map (·.size) = some 3 := by kernel_rfl
 clear hcut hp hv ha hs
 go_enter Try.func83, Try.ntmps83
 go_upto_region 5 with fail
 have BR := ak_ (blk_alloc (blk_new w (.cells #[.int .u64 0, .int .u64 0, .int .i64 0, .int .u32 0, .int .u32 0, .int .i64 0] 58)) (.cells #[.int .u64 0, .int .u64 0, .int .i64 128, .int .u32 0, .int .u32 0, .int .i64 (-1)] 58))
 have bx := blk_new (w.alloc (.cells #[.int .u64 0, .int .u64 0, .int .i64 0, .int .u32 0, .int .u32 0, .int .i64 0] 58)) (.cells #[.int .u64 0, .int .u64 0, .int .i64 128, .int .u32 0, .int .u32 0, .int .i64 (-1)] 58)
 rw [World.size_alloc] at bx
 have BX := ak_ bx
 have HB := ak_ (below_alloc (below_alloc (Below.refl _ w) (.cells #[.int .u64 0, .int .u64 0, .int .i64 0, .int .u32 0, .int .u32 0, .int .i64 0] 58)) (.cells #[.int .u64 0, .int .u64 0, .int .i64 128, .int .u32 0, .int .u32 0, .int .i64 (-1)] 58))
 clear bx
 generalize (w.alloc (.cells #[.int .u64 0, .int .u64 0, .int .i64 0, .int .u32 0, .int .u32 0, .int .i64 0] 58)).alloc (.cells #[.int .u64 0, .int .u64 0, .int .i64 128, .int .u32 0, .int .u32 0, .int .i64 (-1)] 58) = w0 at BR BX HB ⊢
 obtain ⟨gr, hgr⟩ : ∃ gr, gr = w.heap.size := ⟨_, rfl⟩
 have HGR := ak_ hgr
 obtain ⟨gx, hgx⟩ : ∃ gx, gx = w.heap.size + 1 := ⟨_, rfl⟩
 have GX := ak_ (show w.heap.size ≤ gx by omega)
 have GRX := ak_ (show gr ≠ gx by omega)
 rw [← hgx] at BX ⊢
 have BR := ak_ (show w0.heap[gr]? = some (.cells #[.int .u64 0, .int .u64 0, .int .i64 0, .int .u32 0, .int .u32 0, .int .i64 0] 58 (0, 0)) by rw [hgr]; exact BR.out)
 clear hgr hgx
 go_upto_region 6 with (go_at_call 80; refine (ahead_ok data 25 head _ HCUT.out).mono ?_; rintro e w1 ⟨rfl, hb⟩; have BXn := ak_ (blk_below BX.out hb); have BRn := ak_ (blk_below BR.out hb); have HBn := ak_ (below_step HB.out hb); clear hb)
 clear BX BR HB
 have BX := BXn
 have BR := BRn
 have HB := HBn
 clear BXn BRn HBn
 go_upto_region 7 with (go_at_call 29; refine (octet_Get32.calls k head 0 p pb _ HP.out).mono ?_; rintro e w2 ⟨rfl, hb⟩; have BXn := ak_ (blk_below BX.out hb); have BRn := ak_ (blk_below BR.out hb); have HBn := ak_ (below_step HB.out hb); have hc3_ := (blk_cell BXn.out 3).trans rfl; have hf3_ := blk_frozen BXn.out 3; clear hb)
 clear BX BR HB
 have BX := ak_ (blk_put BXn.out 3 (.int .u32 p) rfl)
 have BR := ak_ (blk_far BRn.out (p := ⟨gx, 3, none⟩) GRX.out (.int .u32 p))
 have HB := ak_ (show Below w.heap.size w (w2.setCell ⟨gx, 3, none⟩ (.int .u32 p)) from (below_set (j := 3) (v := (.int .u32 p)) HBn.out GX.out))
 clear BXn BRn HBn hc3_ hf3_
 generalize (w2.setCell ⟨gx, 3, none⟩ (.int .u32 p)) = v2 at BX BR HB ⊢
 go_upto_region 8 with (go_at_call 29; refine (octet_Get32.calls k head 4 v vb _ HV.out).mono ?_; rintro e w3 ⟨rfl, hb⟩; have BXn := ak_ (blk_below BX.out hb); have BRn := ak_ (blk_below BR.out hb); have HBn := ak_ (below_step HB.out hb); have hc4_ := (blk_cell BXn.out 4).trans rfl; have hf4_ := blk_frozen BXn.out 4; clear hb)
 clear BX BR HB
 have BX := ak_ (blk_put BXn.out 4 (.int .u32 v) rfl)
 have BR := ak_ (blk_far BRn.out (p := ⟨gx, 4, none⟩) GRX.out (.int .u32 v))
 have HB := ak_ (show Below w.heap.size w (w3.setCell ⟨gx, 4, none⟩ (.int .u32 v)) from (below_set (j := 4) (v := (.int .u32 v)) HBn.out GX.out))
 clear BXn BRn HBn hc4_ hf4_
 generalize (w3.setCell ⟨gx, 4, none⟩ (.int .u32 v)) = v3 at BX BR HB ⊢
 go_upto_region 9 with (go_at_call 95; refine (octet_GetAddr.calls k head 9 a0 a1 ab _ HA.out).mono ?_; rintro e w4 ⟨rfl, hb⟩; have BXn := ak_ (blk_below BX.out hb); have BRn := ak_ (blk_below BR.out hb); have HBn := ak_ (below_step HB.out hb); have hc0_ := (blk_cell BXn.out 0).trans rfl; have hf0_ := blk_frozen BXn.out 0; have hc1_ := (blk_cell BXn.out 1).trans rfl; have hf1_ := blk_frozen BXn.out 1; clear hb)
 clear BX BR HB
 have BX := ak_ (blk_put (blk_put BXn.out 0 (.int .u64 a0) rfl) 1 (.int .u64 a1) rfl)
 have BR := ak_ (blk_far (blk_far BRn.out (p := ⟨gx, 0, none⟩) GRX.out (.int .u64 a0)) (p := ⟨gx, 1, none⟩) GRX.out (.int .u64 a1))
 have HB := ak_ (show Below w.heap.size w ((w4.setCell ⟨gx, 0, none⟩ (.int .u64 a0)).setCell ⟨gx, 1, none⟩ (.int .u64 a1)) from (below_set (j := 1) (v := (.int .u64 a1)) (below_set (j := 0) (v := (.int .u64 a0)) HBn.out GX.out) GX.out))
 clear BXn BRn HBn hc0_ hf0_ hc1_ hf1_
 generalize ((w4.setCell ⟨gx, 0, none⟩ (.int .u64 a0)).setCell ⟨gx, 1, none⟩ (.int .u64 a1)) = v4 at BX BR HB ⊢
 have BX := ak_ (show v4.heap[gx]? = some (.cells #[.int .u64 a0, .int .u64 a1, .int .i64 128, .int .u32 p, .int .u32 v, .int .i64 (-1)] 58 (0, 0)) from BX.out)
 have hi8 : (8 < head.size) = True := eq_true h8
 have hi8z : ((8 : Int) < (head.size : Int)) = True := eq_true (by omega)
 have hc2_ := (blk_cell BX.out 2).trans rfl
 have hf2_ := blk_frozen BX.out 2
 go_upto_region 11 with fail
 rw [hbits]
 have BX5 := ak_ (blk_put BX.out 2 (.int .i64 bits) rfl)
 have BR5 := ak_ (blk_far BR.out (p := ⟨gx, 2, none⟩) GRX.out (.int .i64 bits))
 have HB5 := ak_ (show Below w.heap.size w (v4.setCell ⟨gx, 2, none⟩ (.int .i64 bits)) from below_set HB.out GX.out)
 clear BX BR HB hc2_ hf2_ hbits
 generalize v4.setCell ⟨gx, 2, none⟩ (.int .i64 bits) = v5 at BX5 BR5 HB5 ⊢
 have BX := ak_ (show v5.heap[gx]? = some (.cells #[.int .u64 a0, .int .u64 a1, .int .i64 bits, .int .u32 p, .int .u32 v, .int .i64 (-1)] 58 (0, 0)) from BX5.out)
 have BR := BR5
 have HB := HB5
 clear BX5 BR5 HB5
 have h0_ := (blk_cell BX.out 0).trans rfl
 have h1_ := (blk_cell BX.out 1).trans rfl
 have h2_ := (blk_cell BX.out 2).trans rfl
 go_wp2_with (first | (go_at_call 89; refine (addr_Sound.calls k a0 a1 bits false _ HS.out).mono ?_; rintro e w5 ⟨rfl, hb⟩; have HBn := ak_ (below_step HB.out hb); clear hb) | (go_at_call 81; refine (must_bad 130 (by decide) _).mono ?_; rintro e w6 ⟨rfl, hb⟩; have HBe := ak_ (below_step HBn.out hb); clear hb))
 exact ⟨rfl, rfl, HBe.out⟩
set_option maxHeartbeats 8000000 in
set_option maxRecDepth 100000 in
theorem opt6_readInner.deleg_el (k : Nat) (data head : ByteArray) (p v : Int) (pb vb : Bool) (a0 a1 : Int) (ab : Bool) (l : List S42) (c : Int) (h8 : 8 < head.size) (bits : Int) (hbits : wrap64 ((head[8]'h8).toNat : Int) = bits) (el : Int) (hel : (el != 0) = true) (w : World) (hcut : octet_Cut.f data 0 25 = some (head, true)) (hp : octet_Get32.f k head 0 = some (p, pb)) (hv : octet_Get32.f k head 4 = some (v, vb)) (ha : octet_GetAddr.f k head 9 = some (a0, a1, ab)) (hs : addr_Sound.f k a0 a1 bits = some true) (hsz : 25 ≤ data.size) (hl : opt6_Parse.f k (data.extract 25 data.size) = some (l, el)) :
 Calls Try.prog 83 #[.int .i64 4, .string data] w fun e w' => e = .panicked [{ v := fault el, recovered := false }] ∧ Below w.heap.size w w' := by
 have HCUT := ak_ hcut
 have HP := ak_ hp
 have HV := ak_ hv
 have HA := ak_ ha
 have HS := ak_ hs
 have HL := ak_ hl
 have hu76 := Try.underlying58
 have hu74 := Try.underlying56
 have hu40 := Try.underlying42
 have hi76 : (Try.prog.info? 58).map (·.size) = some 6 := by kernel_rfl
 have hi74 : (Try.prog.info? 56).map (·.size) = some 3 := by kernel_rfl
 clear hcut hp hv ha hs hl
 go_enter Try.func83, Try.ntmps83
 go_upto_region 5 with fail
 have BR := ak_ (blk_alloc (blk_new w (.cells #[.int .u64 0, .int .u64 0, .int .i64 0, .int .u32 0, .int .u32 0, .int .i64 0] 58)) (.cells #[.int .u64 0, .int .u64 0, .int .i64 128, .int .u32 0, .int .u32 0, .int .i64 (-1)] 58))
 have bx := blk_new (w.alloc (.cells #[.int .u64 0, .int .u64 0, .int .i64 0, .int .u32 0, .int .u32 0, .int .i64 0] 58)) (.cells #[.int .u64 0, .int .u64 0, .int .i64 128, .int .u32 0, .int .u32 0, .int .i64 (-1)] 58)
 rw [World.size_alloc] at bx
 have BX := ak_ bx
 have HB := ak_ (below_alloc (below_alloc (Below.refl _ w) (.cells #[.int .u64 0, .int .u64 0, .int .i64 0, .int .u32 0, .int .u32 0, .int .i64 0] 58)) (.cells #[.int .u64 0, .int .u64 0, .int .i64 128, .int .u32 0, .int .u32 0, .int .i64 (-1)] 58))
 clear bx
 generalize (w.alloc (.cells #[.int .u64 0, .int .u64 0, .int .i64 0, .int .u32 0, .int .u32 0, .int .i64 0] 58)).alloc (.cells #[.int .u64 0, .int .u64 0, .int .i64 128, .int .u32 0, .int .u32 0, .int .i64 (-1)] 58) = w0 at BR BX HB ⊢
 obtain ⟨gr, hgr⟩ : ∃ gr, gr = w.heap.size := ⟨_, rfl⟩
 have HGR := ak_ hgr
 obtain ⟨gx, hgx⟩ : ∃ gx, gx = w.heap.size + 1 := ⟨_, rfl⟩
 have GX := ak_ (show w.heap.size ≤ gx by omega)
 have GRX := ak_ (show gr ≠ gx by omega)
 rw [← hgx] at BX ⊢
 have BR := ak_ (show w0.heap[gr]? = some (.cells #[.int .u64 0, .int .u64 0, .int .i64 0, .int .u32 0, .int .u32 0, .int .i64 0] 58 (0, 0)) by rw [hgr]; exact BR.out)
 clear hgr hgx
 go_upto_region 6 with (go_at_call 80; refine (ahead_ok data 25 head _ HCUT.out).mono ?_; rintro e w1 ⟨rfl, hb⟩; have BXn := ak_ (blk_below BX.out hb); have BRn := ak_ (blk_below BR.out hb); have HBn := ak_ (below_step HB.out hb); clear hb)
 clear BX BR HB
 have BX := BXn
 have BR := BRn
 have HB := HBn
 clear BXn BRn HBn
 go_upto_region 7 with (go_at_call 29; refine (octet_Get32.calls k head 0 p pb _ HP.out).mono ?_; rintro e w2 ⟨rfl, hb⟩; have BXn := ak_ (blk_below BX.out hb); have BRn := ak_ (blk_below BR.out hb); have HBn := ak_ (below_step HB.out hb); have hc3_ := (blk_cell BXn.out 3).trans rfl; have hf3_ := blk_frozen BXn.out 3; clear hb)
 clear BX BR HB
 have BX := ak_ (blk_put BXn.out 3 (.int .u32 p) rfl)
 have BR := ak_ (blk_far BRn.out (p := ⟨gx, 3, none⟩) GRX.out (.int .u32 p))
 have HB := ak_ (show Below w.heap.size w (w2.setCell ⟨gx, 3, none⟩ (.int .u32 p)) from (below_set (j := 3) (v := (.int .u32 p)) HBn.out GX.out))
 clear BXn BRn HBn hc3_ hf3_
 generalize (w2.setCell ⟨gx, 3, none⟩ (.int .u32 p)) = v2 at BX BR HB ⊢
 go_upto_region 8 with (go_at_call 29; refine (octet_Get32.calls k head 4 v vb _ HV.out).mono ?_; rintro e w3 ⟨rfl, hb⟩; have BXn := ak_ (blk_below BX.out hb); have BRn := ak_ (blk_below BR.out hb); have HBn := ak_ (below_step HB.out hb); have hc4_ := (blk_cell BXn.out 4).trans rfl; have hf4_ := blk_frozen BXn.out 4; clear hb)
 clear BX BR HB
 have BX := ak_ (blk_put BXn.out 4 (.int .u32 v) rfl)
 have BR := ak_ (blk_far BRn.out (p := ⟨gx, 4, none⟩) GRX.out (.int .u32 v))
 have HB := ak_ (show Below w.heap.size w (w3.setCell ⟨gx, 4, none⟩ (.int .u32 v)) from (below_set (j := 4) (v := (.int .u32 v)) HBn.out GX.out))
 clear BXn BRn HBn hc4_ hf4_
 generalize (w3.setCell ⟨gx, 4, none⟩ (.int .u32 v)) = v3 at BX BR HB ⊢
 go_upto_region 9 with (go_at_call 95; refine (octet_GetAddr.calls k head 9 a0 a1 ab _ HA.out).mono ?_; rintro e w4 ⟨rfl, hb⟩; have BXn := ak_ (blk_below BX.out hb); have BRn := ak_ (blk_below BR.out hb); have HBn := ak_ (below_step HB.out hb); have hc0_ := (blk_cell BXn.out 0).trans rfl; have hf0_ := blk_frozen BXn.out 0; have hc1_ := (blk_cell BXn.out 1).trans rfl; have hf1_ := blk_frozen BXn.out 1; clear hb)
 clear BX BR HB
 have BX := ak_ (blk_put (blk_put BXn.out 0 (.int .u64 a0) rfl) 1 (.int .u64 a1) rfl)
 have BR := ak_ (blk_far (blk_far BRn.out (p := ⟨gx, 0, none⟩) GRX.out (.int .u64 a0)) (p := ⟨gx, 1, none⟩) GRX.out (.int .u64 a1))
 have HB := ak_ (show Below w.heap.size w ((w4.setCell ⟨gx, 0, none⟩ (.int .u64 a0)).setCell ⟨gx, 1, none⟩ (.int .u64 a1)) from (below_set (j := 1) (v := (.int .u64 a1)) (below_set (j := 0) (v := (.int .u64 a0)) HBn.out GX.out) GX.out))
 clear BXn BRn HBn hc0_ hf0_ hc1_ hf1_
 generalize ((w4.setCell ⟨gx, 0, none⟩ (.int .u64 a0)).setCell ⟨gx, 1, none⟩ (.int .u64 a1)) = v4 at BX BR HB ⊢
 have BX := ak_ (show v4.heap[gx]? = some (.cells #[.int .u64 a0, .int .u64 a1, .int .i64 128, .int .u32 p, .int .u32 v, .int .i64 (-1)] 58 (0, 0)) from BX.out)
 have hi8 : (8 < head.size) = True := eq_true h8
 have hi8z : ((8 : Int) < (head.size : Int)) = True := eq_true (by omega)
 have hc2_ := (blk_cell BX.out 2).trans rfl
 have hf2_ := blk_frozen BX.out 2
 go_upto_region 11 with fail
 rw [hbits]
 have BX5 := ak_ (blk_put BX.out 2 (.int .i64 bits) rfl)
 have BR5 := ak_ (blk_far BR.out (p := ⟨gx, 2, none⟩) GRX.out (.int .i64 bits))
 have HB5 := ak_ (show Below w.heap.size w (v4.setCell ⟨gx, 2, none⟩ (.int .i64 bits)) from below_set HB.out GX.out)
 clear BX BR HB hc2_ hf2_ hbits
 generalize v4.setCell ⟨gx, 2, none⟩ (.int .i64 bits) = v5 at BX5 BR5 HB5 ⊢
 have BX := ak_ (show v5.heap[gx]? = some (.cells #[.int .u64 a0, .int .u64 a1, .int .i64 bits, .int .u32 p, .int .u32 v, .int .i64 (-1)] 58 (0, 0)) from BX5.out)
 have BR := BR5
 have HB := HB5
 clear BX5 BR5 HB5
 have h0_ := (blk_cell BX.out 0).trans rfl
 have h1_ := (blk_cell BX.out 1).trans rfl
 have h2_ := (blk_cell BX.out 2).trans rfl
 go_upto_region 13 with (go_at_call 89; refine (addr_Sound.calls k a0 a1 bits true _ HS.out).mono ?_; rintro e w5 ⟨rfl, hb⟩; have BXn := ak_ (blk_below BX.out hb); have BRn := ak_ (blk_below BR.out hb); have HBn := ak_ (below_step HB.out hb); clear hb)
 clear BX BR HB h0_ h1_ h2_
 have z1 : (25 ≤ data.size) = True := eq_true hsz
 have z2 : ((25 : Int) ≤ (data.size : Int)) = True := eq_true (by omega)
 have GXL := ak_ (blk_lt BXn.out)
 go_wp2_with (first | (go_at_call 19; refine (opt6_Parse.calls k _ l el _ HL.out).mono ?_; rintro e w6 ⟨v0, rfl, hor, hb⟩; have HBp := ak_ (below_step HBn.out hb); clear hb hor) | (go_at_call 81; refine (must_bad el hel _).mono ?_; rintro e w7 ⟨rfl, hb⟩; have HBe := ak_ (below_step HBp.out hb); clear hb))
 exact ⟨rfl, rfl, HBe.out⟩
set_option maxHeartbeats 8000000 in
set_option maxRecDepth 100000 in
theorem opt6_readInner.deleg_et (k : Nat) (data head : ByteArray) (p v : Int) (pb vb : Bool) (a0 a1 : Int) (ab : Bool) (l : List S42) (c : Int) (h8 : 8 < head.size) (bits : Int) (hbits : wrap64 ((head[8]'h8).toNat : Int) = bits) (w : World) (hcut : octet_Cut.f data 0 25 = some (head, true)) (hp : octet_Get32.f k head 0 = some (p, pb)) (hv : octet_Get32.f k head 4 = some (v, vb)) (ha : octet_GetAddr.f k head 9 = some (a0, a1, ab)) (hs : addr_Sound.f k a0 a1 bits = some true) (hsz : 25 ≤ data.size) (hl : opt6_Parse.f k (data.extract 25 data.size) = some (l, 0)) (hst : statS k l (-1) = some none) :
 Calls Try.prog 83 #[.int .i64 4, .string data] w fun e w' => e = .panicked [{ v := fault 130, recovered := false }] ∧ Below w.heap.size w w' := by
 have HCUT := ak_ hcut
 have HP := ak_ hp
 have HV := ak_ hv
 have HA := ak_ ha
 have HS := ak_ hs
 have HL := ak_ hl
 have HST := ak_ hst
 have hu76 := Try.underlying58
 have hu74 := Try.underlying56
 have hu40 := Try.underlying42
 have hi76 : (Try.prog.info? 58).map (·.size) = some 6 := by kernel_rfl
 have hi74 : (Try.prog.info? 56).map (·.size) = some 3 := by kernel_rfl
 clear hcut hp hv ha hs hl hst
 go_enter Try.func83, Try.ntmps83
 go_upto_region 5 with fail
 have BR := ak_ (blk_alloc (blk_new w (.cells #[.int .u64 0, .int .u64 0, .int .i64 0, .int .u32 0, .int .u32 0, .int .i64 0] 58)) (.cells #[.int .u64 0, .int .u64 0, .int .i64 128, .int .u32 0, .int .u32 0, .int .i64 (-1)] 58))
 have bx := blk_new (w.alloc (.cells #[.int .u64 0, .int .u64 0, .int .i64 0, .int .u32 0, .int .u32 0, .int .i64 0] 58)) (.cells #[.int .u64 0, .int .u64 0, .int .i64 128, .int .u32 0, .int .u32 0, .int .i64 (-1)] 58)
 rw [World.size_alloc] at bx
 have BX := ak_ bx
 have HB := ak_ (below_alloc (below_alloc (Below.refl _ w) (.cells #[.int .u64 0, .int .u64 0, .int .i64 0, .int .u32 0, .int .u32 0, .int .i64 0] 58)) (.cells #[.int .u64 0, .int .u64 0, .int .i64 128, .int .u32 0, .int .u32 0, .int .i64 (-1)] 58))
 clear bx
 generalize (w.alloc (.cells #[.int .u64 0, .int .u64 0, .int .i64 0, .int .u32 0, .int .u32 0, .int .i64 0] 58)).alloc (.cells #[.int .u64 0, .int .u64 0, .int .i64 128, .int .u32 0, .int .u32 0, .int .i64 (-1)] 58) = w0 at BR BX HB ⊢
 obtain ⟨gr, hgr⟩ : ∃ gr, gr = w.heap.size := ⟨_, rfl⟩
 have HGR := ak_ hgr
 obtain ⟨gx, hgx⟩ : ∃ gx, gx = w.heap.size + 1 := ⟨_, rfl⟩
 have GX := ak_ (show w.heap.size ≤ gx by omega)
 have GRX := ak_ (show gr ≠ gx by omega)
 rw [← hgx] at BX ⊢
 have BR := ak_ (show w0.heap[gr]? = some (.cells #[.int .u64 0, .int .u64 0, .int .i64 0, .int .u32 0, .int .u32 0, .int .i64 0] 58 (0, 0)) by rw [hgr]; exact BR.out)
 clear hgr hgx
 go_upto_region 6 with (go_at_call 80; refine (ahead_ok data 25 head _ HCUT.out).mono ?_; rintro e w1 ⟨rfl, hb⟩; have BXn := ak_ (blk_below BX.out hb); have BRn := ak_ (blk_below BR.out hb); have HBn := ak_ (below_step HB.out hb); clear hb)
 clear BX BR HB
 have BX := BXn
 have BR := BRn
 have HB := HBn
 clear BXn BRn HBn
 go_upto_region 7 with (go_at_call 29; refine (octet_Get32.calls k head 0 p pb _ HP.out).mono ?_; rintro e w2 ⟨rfl, hb⟩; have BXn := ak_ (blk_below BX.out hb); have BRn := ak_ (blk_below BR.out hb); have HBn := ak_ (below_step HB.out hb); have hc3_ := (blk_cell BXn.out 3).trans rfl; have hf3_ := blk_frozen BXn.out 3; clear hb)
 clear BX BR HB
 have BX := ak_ (blk_put BXn.out 3 (.int .u32 p) rfl)
 have BR := ak_ (blk_far BRn.out (p := ⟨gx, 3, none⟩) GRX.out (.int .u32 p))
 have HB := ak_ (show Below w.heap.size w (w2.setCell ⟨gx, 3, none⟩ (.int .u32 p)) from (below_set (j := 3) (v := (.int .u32 p)) HBn.out GX.out))
 clear BXn BRn HBn hc3_ hf3_
 generalize (w2.setCell ⟨gx, 3, none⟩ (.int .u32 p)) = v2 at BX BR HB ⊢
 go_upto_region 8 with (go_at_call 29; refine (octet_Get32.calls k head 4 v vb _ HV.out).mono ?_; rintro e w3 ⟨rfl, hb⟩; have BXn := ak_ (blk_below BX.out hb); have BRn := ak_ (blk_below BR.out hb); have HBn := ak_ (below_step HB.out hb); have hc4_ := (blk_cell BXn.out 4).trans rfl; have hf4_ := blk_frozen BXn.out 4; clear hb)
 clear BX BR HB
 have BX := ak_ (blk_put BXn.out 4 (.int .u32 v) rfl)
 have BR := ak_ (blk_far BRn.out (p := ⟨gx, 4, none⟩) GRX.out (.int .u32 v))
 have HB := ak_ (show Below w.heap.size w (w3.setCell ⟨gx, 4, none⟩ (.int .u32 v)) from (below_set (j := 4) (v := (.int .u32 v)) HBn.out GX.out))
 clear BXn BRn HBn hc4_ hf4_
 generalize (w3.setCell ⟨gx, 4, none⟩ (.int .u32 v)) = v3 at BX BR HB ⊢
 go_upto_region 9 with (go_at_call 95; refine (octet_GetAddr.calls k head 9 a0 a1 ab _ HA.out).mono ?_; rintro e w4 ⟨rfl, hb⟩; have BXn := ak_ (blk_below BX.out hb); have BRn := ak_ (blk_below BR.out hb); have HBn := ak_ (below_step HB.out hb); have hc0_ := (blk_cell BXn.out 0).trans rfl; have hf0_ := blk_frozen BXn.out 0; have hc1_ := (blk_cell BXn.out 1).trans rfl; have hf1_ := blk_frozen BXn.out 1; clear hb)
 clear BX BR HB
 have BX := ak_ (blk_put (blk_put BXn.out 0 (.int .u64 a0) rfl) 1 (.int .u64 a1) rfl)
 have BR := ak_ (blk_far (blk_far BRn.out (p := ⟨gx, 0, none⟩) GRX.out (.int .u64 a0)) (p := ⟨gx, 1, none⟩) GRX.out (.int .u64 a1))
 have HB := ak_ (show Below w.heap.size w ((w4.setCell ⟨gx, 0, none⟩ (.int .u64 a0)).setCell ⟨gx, 1, none⟩ (.int .u64 a1)) from (below_set (j := 1) (v := (.int .u64 a1)) (below_set (j := 0) (v := (.int .u64 a0)) HBn.out GX.out) GX.out))
 clear BXn BRn HBn hc0_ hf0_ hc1_ hf1_
 generalize ((w4.setCell ⟨gx, 0, none⟩ (.int .u64 a0)).setCell ⟨gx, 1, none⟩ (.int .u64 a1)) = v4 at BX BR HB ⊢
 have BX := ak_ (show v4.heap[gx]? = some (.cells #[.int .u64 a0, .int .u64 a1, .int .i64 128, .int .u32 p, .int .u32 v, .int .i64 (-1)] 58 (0, 0)) from BX.out)
 have hi8 : (8 < head.size) = True := eq_true h8
 have hi8z : ((8 : Int) < (head.size : Int)) = True := eq_true (by omega)
 have hc2_ := (blk_cell BX.out 2).trans rfl
 have hf2_ := blk_frozen BX.out 2
 go_upto_region 11 with fail
 rw [hbits]
 have BX5 := ak_ (blk_put BX.out 2 (.int .i64 bits) rfl)
 have BR5 := ak_ (blk_far BR.out (p := ⟨gx, 2, none⟩) GRX.out (.int .i64 bits))
 have HB5 := ak_ (show Below w.heap.size w (v4.setCell ⟨gx, 2, none⟩ (.int .i64 bits)) from below_set HB.out GX.out)
 clear BX BR HB hc2_ hf2_ hbits
 generalize v4.setCell ⟨gx, 2, none⟩ (.int .i64 bits) = v5 at BX5 BR5 HB5 ⊢
 have BX := ak_ (show v5.heap[gx]? = some (.cells #[.int .u64 a0, .int .u64 a1, .int .i64 bits, .int .u32 p, .int .u32 v, .int .i64 (-1)] 58 (0, 0)) from BX5.out)
 have BR := BR5
 have HB := HB5
 clear BX5 BR5 HB5
 have h0_ := (blk_cell BX.out 0).trans rfl
 have h1_ := (blk_cell BX.out 1).trans rfl
 have h2_ := (blk_cell BX.out 2).trans rfl
 go_upto_region 13 with (go_at_call 89; refine (addr_Sound.calls k a0 a1 bits true _ HS.out).mono ?_; rintro e w5 ⟨rfl, hb⟩; have BXn := ak_ (blk_below BX.out hb); have BRn := ak_ (blk_below BR.out hb); have HBn := ak_ (below_step HB.out hb); clear hb)
 clear BX BR HB h0_ h1_ h2_
 have z1 : (25 ≤ data.size) = True := eq_true hsz
 have z2 : ((25 : Int) ≤ (data.size : Int)) = True := eq_true (by omega)
 have GXL := ak_ (blk_lt BXn.out)
 go_upto_region 15 with (first | (go_at_call 19; refine (opt6_Parse.calls k _ l 0 _ HL.out).mono ?_; rintro e w6 ⟨v0, rfl, hor, hb⟩; have BXp := ak_ (blk_below BXn.out hb); have BRp := ak_ (blk_below BRn.out hb); have HBp := ak_ (below_step HBn.out hb); have HOR := ak_ (Kd.R_mono (ok' := fun k => w5.heap.size ≤ k) (Kd.R_bound hor) (fun k hk => hk.2.1)); clear hb hor) | (go_at_call 81; refine (must_ok _).mono ?_; rintro e w7 ⟨rfl, hb⟩; have BX := ak_ (blk_below BXp.out hb); have BR := ak_ (blk_below BRp.out hb); have HB := ak_ (below_step HBp.out hb); have HO := ak_ (Kd.R_below HOR.out hb); clear hb))
 clear BXn BRn HBn BXp BRp HBp HOR z1 z2 hsz
 obtain ⟨Al, cl, rfl⟩ := Kd.R_slice HO.out
 obtain ⟨n, hn⟩ : ∃ n, n = l.length := ⟨_, rfl⟩
 have HN := ak_ hn
 rw [← hn]
 rw [← hn] at HO
 clear hn
 generalize hB : w5.heap.size = B at HO GXL
 clear hB
 go_upto_region 16 with fail
 have h := HST.out
 go_loopg [13, 67] n (fun gg _ s67 wr => ∃ (kk : Nat) (cur : Int), Aside0 (kk ≤ n ∧ n - kk ≤ gg) ∧ s67 = .int .i64 kk ∧ Aside0 (wr.heap[gx]? = some (.cells #[.int .u64 a0, .int .u64 a1, .int .i64 bits, .int .u32 p, .int .u32 v, .int .i64 cur] 58 (0, 0))) ∧ Aside0 (wr.heap[gr]? = some (.cells #[.int .u64 0, .int .u64 0, .int .i64 0, .int .u32 0, .int .u32 0, .int .i64 0] 58 (0, 0))) ∧ Aside0 (Below w.heap.size w wr) ∧ Aside0 (Kd.R k42 42 wr B (fun k => B ≤ k) (.slice Al n cl) l) ∧ Aside0 (statS k (l.drop kk) cur = some none))
 case atStart => exact ⟨0, -1, ⟨Nat.zero_le _, Nat.le_refl _⟩, rfl, BX, BR, HB, HO, by rw [List.drop_zero]; exact HST⟩
 case round =>
 clear BX BR HB HO h HST
 obtain ⟨kk, cur, HK, rfl, BX, BR, HB, HO, HS⟩ := hrel
 have hC := (Kd.R_reads' HO.out).2.2
 have HMX := ak_ (show n ≤ 9223372036854775807 by have := Kd.C_max hC; have := HN.out; omega)
 by_cases hlt : kk < n
 ·obtain ⟨ad, hA, hx0, hx1⟩ := at_T42 hC (kk : Int) (by omega) (by have := HN.out; omega)
  subst hA
  simp only [Int.toNat_natCast] at hx0 hx1
  have hd : l.drop kk = (rd_T42 l (kk : Int)) :: l.drop (kk + 1) := by
   have hlt' : kk < l.length := by have := HN.out; omega
   rw [List.drop_eq_getElem_cons hlt']
   simp [rd_T42, List.getD_eq_getElem?_getD, List.getElem?_eq_getElem hlt']
  have h := HS.out
  rw [hd, statS] at h
  obtain ⟨x, hx⟩ : ∃ x, x = rd_T42 l (kk : Int) := ⟨_, rfl⟩
  rw [← hx] at h hx0 hx1
  clear hd hx HS hC
  obtain ⟨x0, x1⟩ := x
  dsimp only at h hx0 hx1
  have HLT := ak_ hlt
  have hltz : (kk : Int) < (n : Int) := by omega
  by_cases h13 : x0 = 13
  ·rw [if_pos h13] at h
   obtain ⟨⟨cc, ok⟩, hg, h⟩ := Option.bind_eq_some_iff.1 h
   dsimp only at h
   cases ok with
   | false =>
    have HG := ak_ hg
    have hb13 : (x0 == 13) = true := by simpa using h13
    clear hg h13 h
    go_wp2_with (go_at_call 82; refine (take_bad k _ x0 x1 cc _ HG.out).mono ?_; rintro e w9 ⟨rfl, hb⟩; have HB9 := ak_ (below_step (below_alloc HB.out _) hb); clear hb)
    exact ⟨rfl, rfl, HB9.out⟩
   | true =>
   rw [if_pos rfl] at h
   have HG := ak_ hg
   have hb13 : (x0 == 13) = true := by simpa using h13
   clear hg h13
   by_cases hcur : cur = -1
   ·rw [if_pos hcur] at h
    have H' := ak_ h
    clear h
    go_wp2_with (go_at_call 82; refine (take_ok k gx 5 cur x0 x1 cc _ ((blk_cell (blk_alloc BX.out _) 5).trans rfl) (blk_frozen (blk_alloc BX.out _) 5) HG.out).mono ?_; rintro e w9 ⟨rfl, w1, hb, hw⟩; rw [if_pos hcur] at hw; subst hw; have BX9 := ak_ (blk_put (blk_below (blk_alloc BX.out (.cells #[.int .u16 x0, .string x1] 42)) hb) 5 (.int .i64 cc) rfl); have BR9 := ak_ (blk_far (blk_below (blk_alloc BR.out (.cells #[.int .u16 x0, .string x1] 42)) hb) (p := ⟨gx, 5, none⟩) GRX.out (.int .i64 cc)); have HB9 := ak_ (show Below w.heap.size w (w1.setCell ⟨gx, 5, none⟩ (.int .i64 cc)) from below_set (below_step (below_alloc HB.out _) hb) GX.out); have HO9 := ak_ (Kd.R_far (Kd.R_below (Kd.R_alloc HO.out (.cells #[.int .u16 x0, .string x1] 42)) hb) (p := ⟨gx, 5, none⟩) (fun q hq => Nat.ne_of_gt (Nat.lt_of_lt_of_le GXL.out hq)) (.int .i64 cc)); clear hb)
    go_roundg (n - (kk + 1))
    case measure => have := HK.out; have := HLT.out; omega
    case rel => exact ⟨kk + 1, cc, ⟨by have := HLT.out; omega, Nat.le_refl _⟩, by rw [Go.IntWalk.wrap64_in _ (by have := HLT.out; have := HMX.out; omega)]; rfl, BX9, BR9, HB9, HO9, H'⟩
   rw [if_neg hcur] at h
   have H' := ak_ h
   clear h
   go_wp2_with (go_at_call 82; refine (take_ok k gx 5 cur x0 x1 cc _ ((blk_cell (blk_alloc BX.out _) 5).trans rfl) (blk_frozen (blk_alloc BX.out _) 5) HG.out).mono ?_; rintro e w9 ⟨rfl, w1, hb, hw⟩; rw [if_neg hcur] at hw; subst hw; have BX9 := ak_ (blk_below (blk_alloc BX.out (.cells #[.int .u16 x0, .string x1] 42)) hb); have BR9 := ak_ (blk_below (blk_alloc BR.out (.cells #[.int .u16 x0, .string x1] 42)) hb); have HB9 := ak_ (below_step (below_alloc HB.out _) hb); have HO9 := ak_ (Kd.R_below (Kd.R_alloc HO.out (.cells #[.int .u16 x0, .string x1] 42)) hb); clear hb)
   go_roundg (n - (kk + 1))
   case measure => have := HK.out; have := HLT.out; omega
   case rel => exact ⟨kk + 1, cur, ⟨by have := HLT.out; omega, Nat.le_refl _⟩, by rw [Go.IntWalk.wrap64_in _ (by have := HLT.out; have := HMX.out; omega)]; rfl, BX9, BR9, HB9, HO9, H'⟩
  rw [if_neg h13] at h
  have H' := ak_ h
  have hb13 : (x0 == 13) = false := by simpa using h13
  clear h h13
  go_wp2
  go_roundg (n - (kk + 1))
  case measure => have := HK.out; have := HLT.out; omega
  case rel => exact ⟨kk + 1, cur, ⟨by have := HLT.out; omega, Nat.le_refl _⟩, by rw [Go.IntWalk.wrap64_in _ (by have := HLT.out; have := HMX.out; omega)]; rfl, ⟨blk_alloc BX.out _⟩, ⟨blk_alloc BR.out _⟩, ⟨below_alloc HB.out _⟩, ⟨Kd.R_alloc HO.out _⟩, H'⟩
 obtain rfl : kk = n := by have := HK.out; omega
 have h := HS.out
 rw [HN.out, List.drop_length, statS] at h
 exact absurd (Option.some.inj h) (by simp)
def readT (k : Nat) (data : ByteArray) (size : Nat) (a0 a1 bits p v : Int) : Option (Except Int S58) :=
  (addr_Sound.f k a0 a1 bits).bind fun s => if s = true then (if size ≤ data.size then (opt6_Parse.f k (data.extract size data.size)).bind fun l => if l.2 = 0 then (statS k l.1 (-1)).bind fun c => some (match c with | some c => .ok ⟨⟨⟨a0, a1⟩, bits⟩, p, v, c⟩ | none => .error 130) else some (.error l.2) else none) else some (.error 130)
def readI (k : Nat) (kind : Int) (data : ByteArray) : Option (Except Int S58) :=
  if kind = 4 then
    (octet_Cut.f data 0 25).bind fun h => if h.2 = true then (if h8 : 8 < h.1.size then (octet_Get32.f k h.1 0).bind fun p => (octet_Get32.f k h.1 4).bind fun v => (octet_GetAddr.f k h.1 9).bind fun a => readT k data 25 a.1 a.2.1 (wrap64 ((h.1[8]'h8).toNat : Int)) p.1 v.1 else none) else some (.error 3)
  else
    (octet_Cut.f data 0 24).bind fun h => if h.2 = true then (octet_Get32.f k h.1 16).bind fun p => (octet_Get32.f k h.1 20).bind fun v => (octet_GetAddr.f k h.1 0).bind fun a => readT k data 24 a.1 a.2.1 128 p.1 v.1 else some (.error 3)
def readE (r : Except Int S58) : Ending := match r with
  | .ok x => .returned (.agg #[.int .u64 x.f0.f0.f0, .int .u64 x.f0.f0.f1, .int .i64 x.f0.f1, .int .u32 x.f1, .int .u32 x.f2, .int .i64 x.f3])
  | .error e => .panicked [{ v := fault e, recovered := false }]
theorem readI.calls (k : Nat) (kind : Int) (data : ByteArray) (r : Except Int S58) (w : World) (h : readI k kind data = some r) :
 Calls Try.prog 83 #[.int .i64 kind, .string data] w fun e w' => e = readE r ∧ Below w.heap.size w w' := by
 unfold readI at h
 by_cases h4 : kind = 4
 ·subst h4
  rw [if_pos rfl] at h
  obtain ⟨⟨head, ok⟩, hcut, h⟩ := Option.bind_eq_some_iff.1 h
  dsimp only at h
  cases ok with
  | false =>
   rw [if_neg (by decide)] at h
   obtain rfl := Option.some.inj h
   exact opt6_readInner.deleg_e3 k data head 0 0 false false 0 0 false [] 0 w hcut
  | true =>
  rw [if_pos rfl] at h
  by_cases h8 : 8 < head.size
  case neg => rw [dif_neg h8] at h; cases h
  rw [dif_pos h8] at h
  obtain ⟨⟨p, pb⟩, hp, h⟩ := Option.bind_eq_some_iff.1 h
  obtain ⟨⟨v, vb⟩, hv, h⟩ := Option.bind_eq_some_iff.1 h
  obtain ⟨⟨a0, a1, ab⟩, ha, h⟩ := Option.bind_eq_some_iff.1 h
  dsimp only at h
  unfold readT at h
  obtain ⟨s, hs, h⟩ := Option.bind_eq_some_iff.1 h
  cases s with
  | false =>
   rw [if_neg (by decide)] at h
   obtain rfl := Option.some.inj h
   exact opt6_readInner.deleg_es k data head p v pb vb a0 a1 ab [] 0 h8 _ rfl w hcut hp hv ha hs
  | true =>
  rw [if_pos rfl] at h
  by_cases hsz : 25 ≤ data.size
  case neg => rw [if_neg hsz] at h; cases h
  rw [if_pos hsz] at h
  obtain ⟨⟨l, el⟩, hl, h⟩ := Option.bind_eq_some_iff.1 h
  dsimp only at h
  by_cases hel : el = 0
  ·subst hel
   rw [if_pos rfl] at h
   obtain ⟨c, hc, h⟩ := Option.bind_eq_some_iff.1 h
   obtain rfl := Option.some.inj h
   cases c with
   | none => exact opt6_readInner.deleg_et k data head p v pb vb a0 a1 ab l 0 h8 _ rfl w hcut hp hv ha hs hsz hl hc
   | some c => exact opt6_readInner.deleg_ok k data head p v pb vb a0 a1 ab l c h8 _ rfl w hcut hp hv ha hs hsz hl hc
  rw [if_neg hel] at h
  obtain rfl := Option.some.inj h
  exact opt6_readInner.deleg_el k data head p v pb vb a0 a1 ab l 0 h8 _ rfl el (by simpa using hel) w hcut hp hv ha hs hsz hl
 rw [if_neg h4] at h
 have hk4 : (kind == 4) = false := by simpa using h4
 obtain ⟨⟨head, ok⟩, hcut, h⟩ := Option.bind_eq_some_iff.1 h
 dsimp only at h
 cases ok with
 | false =>
  rw [if_neg (by decide)] at h
  obtain rfl := Option.some.inj h
  exact opt6_readInner.other_e3 k kind hk4 data head 0 0 false false 0 0 false [] 0 w hcut
 | true =>
 rw [if_pos rfl] at h
 obtain ⟨⟨p, pb⟩, hp, h⟩ := Option.bind_eq_some_iff.1 h
 obtain ⟨⟨v, vb⟩, hv, h⟩ := Option.bind_eq_some_iff.1 h
 obtain ⟨⟨a0, a1, ab⟩, ha, h⟩ := Option.bind_eq_some_iff.1 h
 dsimp only at h
 unfold readT at h
 obtain ⟨s, hs, h⟩ := Option.bind_eq_some_iff.1 h
 cases s with
 | false =>
  rw [if_neg (by decide)] at h
  obtain rfl := Option.some.inj h
  exact opt6_readInner.other_es k kind hk4 data head p v pb vb a0 a1 ab [] 0 w hcut hp hv ha hs
 | true =>
 rw [if_pos rfl] at h
 by_cases hsz : 24 ≤ data.size
 case neg => rw [if_neg hsz] at h; cases h
 rw [if_pos hsz] at h
 obtain ⟨⟨l, el⟩, hl, h⟩ := Option.bind_eq_some_iff.1 h
 dsimp only at h
 by_cases hel : el = 0
 ·subst hel
  rw [if_pos rfl] at h
  obtain ⟨c, hc, h⟩ := Option.bind_eq_some_iff.1 h
  obtain rfl := Option.some.inj h
  cases c with
  | none => exact opt6_readInner.other_et k kind hk4 data head p v pb vb a0 a1 ab l 0 w hcut hp hv ha hs hsz hl hc
  | some c => exact opt6_readInner.other_ok k kind hk4 data head p v pb vb a0 a1 ab l c w hcut hp hv ha hs hsz hl hc
 rw [if_neg hel] at h
 obtain rfl := Option.some.inj h
 exact opt6_readInner.other_el k kind hk4 data head p v pb vb a0 a1 ab l 0 el (by simpa using hel) w hcut hp hv ha hs hsz hl
theorem kindOf_ (kind c code : Int) (gb : Nat) (w : World) (hc : opt6_codeOf.f kind = some c) (hk : w.cell? ⟨gb, 0, none⟩ = some (.int .u16 code)) :
 Calls Try.prog 78 #[.int .i64 kind, .pointer (some ⟨gb, 0, none⟩)] w fun e w' => e = .returned (.bool (c == code)) ∧ Below w.heap.size w w' := by
 have HC := ak_ hc
 have HK := ak_ hk
 have HB := ak_ (World.block_lt_of_cell? w _ hk)
 have hu40 := Try.underlying42
 clear hc
 go_enter Try.func78, Try.ntmps78
 go_upto_region 1 with fail
 go_region_held3 (fun w' => w'.cell? ⟨gb, 0, none⟩ = some (.int .u16 code)) (first | go_keep) (first | (go_at_call 68; refine (opt6_codeOf.calls kind c _ HC.out).mono ?_; rintro e w1 ⟨rfl, hd⟩; have HB1 := ak_ (show Below w.heap.size w w1 from below_step (Below.refl _ w).drew hd.below); have hk1 : w1.cell? ⟨gb, 0, none⟩ = some (.int .u16 code) := (HB1.out.cell HB.out).trans HK.out; clear hd))
 all_goals
  go_wp2
  go_ret
  exact ⟨rfl, HB1.out⟩
def kindIx (code : Int) : Int := if code = 3 then 0 else if code = 4 then 1 else if code = 25 then 2 else -1
set_option maxHeartbeats 4000000 in
set_option maxRecDepth 100000 in
theorem kindIx_ (code : Int) (gs gb : Nat) (w : World) (hs : w.heap[gs]? = some (.cells #[.int .i64 2, .int .i64 3, .int .i64 4] 3 (0, 0))) (hb : w.cell? ⟨gb, 0, none⟩ = some (.int .u16 code)) :
 Calls Try.prog 77 #[.slice (some ⟨gs, 0, none⟩) 3 3, .func (.func 78) #[] #[.pointer (some ⟨gb, 0, none⟩)]] w fun e w' => e = .returned (.int .i64 (kindIx code)) ∧ Below w.heap.size w w' := by
 have HS := ak_ hs
 have HK := ak_ hb
 have HLB := ak_ (World.block_lt_of_cell? w _ hb)
 clear hs hb
 go_enter Try.func77, Try.ntmps77
 go_wp2
 go_loopg [5, 8] 3 (fun gg s5 s8 wr => ∃ kk : Nat, Aside0 (kk ≤ 3 ∧ 3 - kk ≤ gg) ∧ s8 = .int .i64 kk ∧ Aside0 (Below w.heap.size w wr) ∧ Aside0 ((0 < kk → code ≠ 3) ∧ (1 < kk → code ≠ 4) ∧ (2 < kk → code ≠ 25)))
 case atStart => exact ⟨0, ⟨by omega⟩, rfl, ⟨Below.refl _ _⟩, ⟨fun h => absurd h (by omega), fun h => absurd h (by omega), fun h => absurd h (by omega)⟩⟩
 case round =>
 obtain ⟨kk, HKK, rfl, HB, HN⟩ := hrel
 have CS := ak_ (blk_below HS.out HB.out)
 have hk : wr.cell? ⟨gb, 0, none⟩ = some (.int .u16 code) := (HB.out.cell HLB.out).trans HK.out
 have hcases : kk = 0 ∨ kk = 1 ∨ kk = 2 ∨ kk = 3 := by have := HKK.out; omega
 have HHK := ak_ hk
 clear hk
 rcases hcases with rfl | rfl | rfl | rfl
 ·have hc0 : wr.cell? ⟨gs, 0, none⟩ = some (.int .i64 2) := (blk_cell CS.out 0).trans rfl
  by_cases hcode : code = 3
  ·subst hcode
   go_wp2_with (go_at_call 78; refine (kindOf_ 2 3 3 gb _ rfl HHK.out).mono ?_; rintro e w1 ⟨rfl, hd⟩; have HB1 := ak_ (below_step HB.out hd); clear hd)
   go_ret
   exact ⟨rfl, HB1.out⟩
  have hbb : ((3 : Int) == code) = false := by simpa using fun h => hcode h.symm
  have HCO := ak_ hcode
  clear hcode
  go_wp2_with (go_at_call 78; refine (kindOf_ 2 3 code gb _ rfl HHK.out).mono ?_; rintro e w1 ⟨rfl, hd⟩; have HB1 := ak_ (below_step HB.out hd); clear hd)
  go_roundg 2
  case measure => have := HKK.out; omega
  case rel => exact ⟨1, ⟨by omega⟩, rfl, HB1, ⟨fun _ => HCO.out, fun h => absurd h (by omega), fun h => absurd h (by omega)⟩⟩
 ·have hc0 : wr.cell? ⟨gs, 1, none⟩ = some (.int .i64 3) := (blk_cell CS.out 1).trans rfl
  have N3 := ak_ (HN.out.1 (by omega))
  clear HN
  by_cases hcode : code = 4
  ·subst hcode
   go_wp2_with (go_at_call 78; refine (kindOf_ 3 4 4 gb _ rfl HHK.out).mono ?_; rintro e w1 ⟨rfl, hd⟩; have HB1 := ak_ (below_step HB.out hd); clear hd)
   go_ret
   exact ⟨rfl, HB1.out⟩
  have hbb : ((4 : Int) == code) = false := by simpa using fun h => hcode h.symm
  have HCO := ak_ hcode
  clear hcode
  go_wp2_with (go_at_call 78; refine (kindOf_ 3 4 code gb _ rfl HHK.out).mono ?_; rintro e w1 ⟨rfl, hd⟩; have HB1 := ak_ (below_step HB.out hd); clear hd)
  go_roundg 1
  case measure => have := HKK.out; omega
  case rel => exact ⟨2, ⟨by omega⟩, rfl, HB1, ⟨fun _ => N3.out, fun _ => HCO.out, fun h => absurd h (by omega)⟩⟩
 ·have hc0 : wr.cell? ⟨gs, 2, none⟩ = some (.int .i64 4) := (blk_cell CS.out 2).trans rfl
  have N3 := ak_ (HN.out.1 (by omega))
  have N4 := ak_ (HN.out.2.1 (by omega))
  clear HN
  by_cases hcode : code = 25
  ·subst hcode
   go_wp2_with (go_at_call 78; refine (kindOf_ 4 25 25 gb _ rfl HHK.out).mono ?_; rintro e w1 ⟨rfl, hd⟩; have HB1 := ak_ (below_step HB.out hd); clear hd)
   go_ret
   exact ⟨rfl, HB1.out⟩
  have hbb : ((25 : Int) == code) = false := by simpa using fun h => hcode h.symm
  have HCO := ak_ hcode
  clear hcode
  go_wp2_with (go_at_call 78; refine (kindOf_ 4 25 code gb _ rfl HHK.out).mono ?_; rintro e w1 ⟨rfl, hd⟩; have HB1 := ak_ (below_step HB.out hd); clear hd)
  go_roundg 0
  case measure => have := HKK.out; omega
  case rel => exact ⟨3, ⟨by omega⟩, rfl, HB1, ⟨fun _ => N3.out, fun _ => N4.out, fun _ => HCO.out⟩⟩
 have h3 := HN.out.1 (by omega)
 have h4 := HN.out.2.1 (by omega)
 have h25 := HN.out.2.2 (by omega)
 have hx : kindIx code = -1 := by unfold kindIx; rw [if_neg h3, if_neg h4, if_neg h25]
 clear HN h3 h4 h25
 go_wp2
 go_ret
 exact ⟨by rw [hx]; rfl, HB.out⟩
theorem assert_nil (W : World) : (Instr.typeAssert .nilIface 20 117 true).run Try.prog W = .ok (.tuple #[.agg #[.int .i64 0], .bool false]) W := by
 have hu86 := Try.underlying117
 have hz : (Try.prog.info? 117).map (·.zero) = some (some (.agg #[.int .i64 0])) := by kernel_rfl
 obtain ⟨i, hi, hzz⟩ := Option.map_eq_some_iff.1 hz
 unfold Instr.typeAssert
 simp [run_underlying hu86, zeroValue, typeInfo, hi, hzz]
theorem assert_fault (e : Int) (W : World) : (Instr.typeAssert (fault e) 20 117 true).run Try.prog W = .ok (.tuple #[.agg #[.int .i64 e], .bool true]) W := by
 have hu86 := Try.underlying117
 unfold Instr.typeAssert fault
 simp [run_underlying hu86]
set_option maxRecDepth 100000 in
theorem caught_idle (ga ge : Nat) (w : World) :
 CallsD Try.prog 79 #[.pointer (some ⟨ga, 0, none⟩), .pointer (some ⟨ge, 0, none⟩)] .returning w fun e u' w' => e = .returned (.tuple #[]) ∧ u' = .returning ∧ Below w.heap.size w w' := by
 have hu86 := Try.underlying117
 have hta := assert_nil
 refine callsD_of_wpS Try.func79 rfl fun c₀ cs hu => ?_
 apply wpS_seq
 apply wpS_region
 simp [wpOpsS, go_sem, recoverD, hu, Try.ntmps79, Exit.thenS, hta]
 apply wpS_seq
 apply wpS_region
 simp [wpOpsS, go_sem, Exit.thenS]
 refine wpS_cond (t := false) (by simp [Act.eval, Array.replicate]) ?_
 simp only [Bool.false_eq_true, if_false]
 refine wpS_of_wp (wp_skip ?_)
 cases c₀
 simp_all [bodyPostS, results, Try.results79]
 exact below_alloc (Below.refl _ w) _
set_option maxRecDepth 100000 in
set_option maxHeartbeats 4000000 in
theorem caught_fault (ga ge : Nat) (x cur : Int) (kind iaid t1 t2 code : Int) (has : Value) (older : List PanicEntry) (w : World) (hne : ga ≠ ge) (ha : w.heap[ga]? = some (.cells #[.int .i64 kind, .int .u32 iaid, .int .u32 t1, .int .u32 t2, has, .int .i64 code] 51 (0, 0))) (hb : w.heap[ge]? = some (.cells #[.int .i64 cur] 30 (0, 0))) :
 CallsD Try.prog 79 #[.pointer (some ⟨ga, 0, none⟩), .pointer (some ⟨ge, 0, none⟩)] (.panicking ({ v := fault x, recovered := false } :: older)) w fun e u' w' => e = .returned (.tuple #[]) ∧ u' = .panicking ({ v := fault x, recovered := true } :: older) ∧
  w'.heap[ga]? = some (.cells #[.int .i64 0, .int .u32 0, .int .u32 0, .int .u32 0, .slice none 0 0, .int .i64 0] 51 (0, 0)) ∧ w'.heap[ge]? = some (.cells #[.int .i64 x] 30 (0, 0)) ∧ ∀ m, m ≤ ga → m ≤ ge → Below m w w' := by
 have hu86 := Try.underlying117
 have hu37 := Try.underlying51
 have hta := assert_fault x
 have hfx : fault x = .iface 117 (.agg #[.int .i64 x]) := rfl
 refine callsD_of_wpS Try.func79 rfl fun c₀ cs hu => ?_
 apply wpS_seq
 apply wpS_region
 simp [wpOpsS, go_sem, recoverD, hu, Try.ntmps79, Exit.thenS, hta]
 apply wpS_seq
 apply wpS_region
 simp [wpOpsS, go_sem, Exit.thenS]
 refine wpS_cond (t := true) (by simp [Act.eval, Array.replicate]) ?_
 simp only [if_true]
 refine wpS_of_wp ?_
 have A1 := ak_ (blk_alloc ha (.cells #[.int .i64 x] 117))
 have B1 := ak_ (blk_alloc hb (.cells #[.int .i64 x] 117))
 have F1 := ak_ (blk_new w (.cells #[.int .i64 x] 117))
 have hf0 : (w.alloc (.cells #[.int .i64 x] 117)).cell? ⟨w.heap.size, 0, none⟩ = some (.int .i64 x) := (blk_cell F1.out 0).trans rfl
 have a0_ := (blk_cell A1.out 0).trans rfl
 have g0_ := blk_frozen A1.out 0
 have a1_ := (blk_cell A1.out 1).trans rfl
 have g1_ := blk_frozen A1.out 1
 have a2_ := (blk_cell A1.out 2).trans rfl
 have g2_ := blk_frozen A1.out 2
 have a3_ := (blk_cell A1.out 3).trans rfl
 have g3_ := blk_frozen A1.out 3
 have a4_ := (blk_cell A1.out 4).trans rfl
 have g4_ := blk_frozen A1.out 4
 have a5_ := (blk_cell A1.out 5).trans rfl
 have g5_ := blk_frozen A1.out 5
 have e0_ := (blk_cell B1.out 0).trans rfl
 have q0_ := blk_frozen B1.out 0
 have hge := hne.symm
 have hdr : ∀ W : World, W.drew.heap = W.heap := fun _ => rfl
 have hw1 : ga ≠ w.heap.size := Nat.ne_of_lt (blk_lt ha)
 have hw2 : ge ≠ w.heap.size := Nat.ne_of_lt (blk_lt hb)
 go_region
 all_goals
  have q1 := blk_far (blk_put (blk_put (blk_put (blk_put (blk_put (blk_put A1.out 0 (.int .i64 0) rfl) 1 (.int .u32 0) rfl) 2 (.int .u32 0) rfl) 3 (.int .u32 0) rfl) 4 (.slice none 0 0) rfl) 5 (.int .i64 0) rfl) (p := ⟨ge, 0, none⟩) hne (.int .i64 x)
  have q2 := blk_put (blk_far (blk_far (blk_far (blk_far (blk_far (blk_far B1.out (p := ⟨ga, 0, none⟩) hge (.int .i64 0)) (p := ⟨ga, 1, none⟩) hge (.int .u32 0)) (p := ⟨ga, 2, none⟩) hge (.int .u32 0)) (p := ⟨ga, 3, none⟩) hge (.int .u32 0)) (p := ⟨ga, 4, none⟩) hge (.slice none 0 0)) (p := ⟨ga, 5, none⟩) hge (.int .i64 0)) 0 (.int .i64 x) rfl
  have q3 := fun (m : Nat) (h1 : m ≤ ga) (h2 : m ≤ ge) => (((((((((Below.refl m w).alloc (Nat.le_trans h1 (Nat.le_of_lt (blk_lt ha))) (.cells #[.int .i64 x] 117)).setCell (p := ⟨ga, 0, none⟩) h1 (.int .i64 0)).setCell (p := ⟨ga, 1, none⟩) h1 (.int .u32 0)).setCell (p := ⟨ga, 2, none⟩) h1 (.int .u32 0)).setCell (p := ⟨ga, 3, none⟩) h1 (.int .u32 0)).setCell (p := ⟨ga, 4, none⟩) h1 (.slice none 0 0)).setCell (p := ⟨ga, 5, none⟩) h1 (.int .i64 0)).setCell (p := ⟨ge, 0, none⟩) h2 (.int .i64 x)).drew
  cases c₀
  simp [bodyPostS, results, Try.results79] at hu ⊢
  rw [hdr]
  exact ⟨q1, q2, q3⟩
theorem appendAt {w : World} {base : Nat} {ok : Nat → Prop} {A : Option Addr} {c : Nat} {has : List S58} (y : S58) {g : Nat} (ty : TypeId) (HO : Kd.R k58 58 w base ok (.slice A has.length c) has) (hg : w.heap[g]? = some (.cells #[.int .u64 y.f0.f0.f0, .int .u64 y.f0.f0.f1, .int .i64 y.f0.f1, .int .u32 y.f1, .int .u32 y.f2, .int .i64 y.f3] 58 (0, 0))) (hgo : ok g) (hne : some g ≠ Value.ownBlock (.slice A has.length c)) (hfresh : ∀ k, w.heap.size ≤ k → ok k) (hbase : base ≤ w.heap.size) (hlen : has.length < 8) :
 ∃ v1 w1, (Builtin.append_ #[49, 49] ty #[.slice A has.length c, .slice (some ⟨g, 0, none⟩) 1 1]).run Try.prog w = .ok v1 w1 ∧ Kd.R k58 58 w1 base ok v1 (has ++ [y]) ∧ w.grownBy w1 (Value.ownBlock (.slice A has.length c)) := by
 obtain ⟨h0, inner, hown, hr⟩ := HO
 obtain ⟨i0, hi, hzz⟩ := Option.map_eq_some_iff.1 info58
 simp only [Prod.mk.injEq] at hzz
 obtain ⟨hz0, hz1, hz2⟩ := hzz
 have hcell : ∀ (j : Nat) u, [Value.int .u64 y.f0.f0.f0, .int .u64 y.f0.f0.f1, .int .i64 y.f0.f1, .int .u32 y.f1, .int .u32 y.f2, .int .i64 y.f3][j]? = some u → w.cell? (Addr.add ⟨g, 0, none⟩ j) = some u := fun j u hj => by
  rw [add_plain]
  match j, hj with
  | 0, hj => obtain rfl := Option.some.inj hj; exact (blk_cell hg 0).trans rfl
  | 1, hj => obtain rfl := Option.some.inj hj; exact (blk_cell hg 1).trans rfl
  | 2, hj => obtain rfl := Option.some.inj hj; exact (blk_cell hg 2).trans rfl
  | 3, hj => obtain rfl := Option.some.inj hj; exact (blk_cell hg 3).trans rfl
  | 4, hj => obtain rfl := Option.some.inj hj; exact (blk_cell hg 4).trans rfl
  | 5, hj => obtain rfl := Option.some.inj hj; exact (blk_cell hg 5).trans rfl
 obtain ⟨v1, w1, hrun, hown1, hgr, _, hat⟩ := run_append_own_at (P := Try.prog) w base 49 ty 58 i0 _ 6 40 Try.underlying49 hi hz0 hz1 hz2 rfl (by decide) (.slice A has.length c) has.length inner hown ⟨g, 0, none⟩ 1 1 [.int .u64 y.f0.f0.f0, .int .u64 y.f0.f0.f1, .int .i64 y.f0.f1, .int .u32 y.f1, .int .u32 y.f2, .int .i64 y.f3] rfl hcell (by simp [Value.oneCell']) (by simp only [maxLen]; omega) (by omega) hbase
 refine ⟨v1, w1, hrun, Kd.R_appended (okp := fun _ => False) h0 hr (k58_mkM w base _ y) (fun _ h => h.elim) hfresh hown1 hgr ?_, hgr⟩
 rcases hat with hat | hat
 ·exact .inl hat
 exact .inr ⟨_, hat, Nat.le_refl _⟩
theorem grownFrom_ {w w1 w2 : World} {row : Option Nat} (hb : Below w.heap.size w w1) (hg : w1.grownBy w2 row) : w.grownBy w2 row :=
 ⟨hg.os.trans hb.os, hg.tape.trans hb.tape, hg.output.trans hb.output, Nat.le_trans hb.size hg.size, fun k hk hr => (hg.block k (Nat.lt_of_lt_of_le hk hb.size) hr).trans (hb.block k hk)⟩
def getInnerV (w0 : World) (ga gx : Nat) (kind : Int) (Ah : Option Addr) (ch : Nat) (has : List S58) (data : ByteArray) (y : S58) : Nat → Value → World → Prop
  | 0, v, _ => v = .pointer (some ⟨ga, 4, none⟩)
  | 1, v, _ => v = .slice Ah has.length ch
  | 2, v, _ => v = .pointer (some ⟨ga, 0, none⟩)
  | 3, v, _ => v = .int .i64 kind
  | 4, v, _ => v = .pointer (some ⟨gx, 1, none⟩)
  | 5, v, _ => v = .string data
  | 6, v, _ => v = .agg #[.int .u64 y.f0.f0.f0, .int .u64 y.f0.f0.f1, .int .i64 y.f0.f1, .int .u32 y.f1, .int .u32 y.f2, .int .i64 y.f3]
  | 7, v, w => ∃ g, v = .slice (some ⟨g, 0, none⟩) 1 1 ∧ w.heap[g]? = some (.cells #[.int .u64 y.f0.f0.f0, .int .u64 y.f0.f0.f1, .int .i64 y.f0.f1, .int .u32 y.f1, .int .u32 y.f2, .int .i64 y.f3] 58 (0, 0)) ∧ w0.heap.size ≤ g
  | _, _, _ => True
def getP (w : World) (base GB : Nat) (Ah : Option Addr) (ch : Nat) (has : List S58) (y : S58) (v1 : Value) (W : World) : Prop := Kd.R k58 58 W base (fun q => GB ≤ q) v1 (has ++ [y]) ∧ w.grownBy W (Value.ownBlock (.slice Ah has.length ch))
def getT (act : Act) (w : World) (base GB ga : Nat) (Ah : Option Addr) (ch : Nat) (has : List S58) (y : S58) (i : Nat) (a : Act) (W2 : World) : Prop :=
  (i = 9 ∧ ∃ u v1, a = (XReg.fills u [84, 85, 86, 87, 88, 89, 90, 91] act).put (some 92) v1 ∧ getP w base GB Ah ch has y v1 W2) ∨
  (i = 10 ∧ ∃ u v1, a = ((XReg.fills u [84, 85, 86, 87, 88, 89, 90, 91] act).put (some 92) v1).put (some 93) (.pointer (some ⟨ga, 4, none⟩)) ∧ getP w base GB Ah ch has y v1 W2) ∨
  (i = 11 ∧ ∃ u v1 W, a = ((XReg.fills u [84, 85, 86, 87, 88, 89, 90, 91] act).put (some 92) v1).put (some 93) (.pointer (some ⟨ga, 4, none⟩)) ∧ getP w base GB Ah ch has y v1 W ∧ W2 = W.setCell ⟨ga, 4, none⟩ v1)
set_option maxHeartbeats 4000000 in
set_option maxRecDepth 100000 in
theorem getInner (ops : Array Oper) (hops : ops = opsOf Try.f53 28) (id : Nat) (Q : Exit → Act → World → Prop) (act : Act) (w : World) (hsz0 : act.tmps.size = 96) (k : Nat) (ga gx : Nat) (kind iaid t1 t2 cur xc : Int) (Ah : Option Addr) (ch : Nat) (has : List S58) (data : ByteArray) (base GB : Nat) (y : S58)
 (h2 : act.eval (.tmp 2) = .pointer (some ⟨ga, 0, none⟩)) (h11 : act.eval (.tmp 11) = .pointer (some ⟨gx, 0, none⟩))
 (ba : w.heap[ga]? = some (.cells #[.int .i64 kind, .int .u32 iaid, .int .u32 t1, .int .u32 t2, .slice Ah has.length ch, .int .i64 cur] 51 (0, 0))) (bx : w.heap[gx]? = some (.cells #[.int .u16 xc, .string data] 42 (0, 0)))
 (hr0 : readI k kind data = some (.ok y)) (HO : Kd.R k58 58 w base (fun q => GB ≤ q) (.slice Ah has.length ch) has) (hga : ga < GB) (hGB : GB ≤ w.heap.size) (hbase : base ≤ w.heap.size) (hlen : has.length < 8)
 (hK : ∀ (u : Tmp → Value) (v1 : Value) (W : World), Kd.R k58 58 W base (fun q => GB ≤ q) v1 (has ++ [y]) → w.grownBy W (Value.ownBlock (.slice Ah has.length ch)) → Q .normal (((XReg.fills u [84, 85, 86, 87, 88, 89, 90, 91] act).put (some 92) v1).put (some 93) (.pointer (some ⟨ga, 4, none⟩))) (W.setCell ⟨ga, 4, none⟩ v1)) :
 (Code.region id ops true).wp Try.prog Q act w := by
 subst hops
 refine (wpIn_wide (n := 9)).1 (XReg.region_goT (by kernel_rfl) 8 (by rw [hsz0]; kernel_rfl) (getInnerV w ga gx kind Ah ch has data y)
  (fun w' => Below w.heap.size w w') (getT act w base GB ga Ah ch has y) ?_ (fun w1 w2 h1 h2 => below_step h1 h2) ((Below.refl _ w).drew) ?_ ?_ ?_ ?_)
 ·intro i v w1 w2 hv hb
  match i, hv with
  | 7, ⟨g, e, hg, hl⟩ => exact ⟨g, e, blk_below hg hb, hl⟩
  | 0, hv | 1, hv | 2, hv | 3, hv | 4, hv | 5, hv | 6, hv => exact hv
  | _ + 8, _ => trivial
 ·intro i o a' w' hi ho hB hdf hr hd
  have ca := blk_below ba hB
  have cx := blk_below bx hB
  have hcases : i = 0 ∨ i = 1 ∨ i = 2 ∨ i = 3 ∨ i = 4 ∨ i = 5 ∨ i = 6 ∨ i = 7 := by omega
  rcases hcases with rfl | rfl | rfl | rfl | rfl | rfl | rfl | rfl
  ·obtain ⟨hop, hdst⟩ := XReg.op_is (x := .fieldAddr 51 (.tmp 2) 4) (d := some 84) ho (by kernel_rfl)
   have e0 := (hr 2 (by kernel_rfl)).trans h2
   have hu0 := Try.underlying51
   refine XReg.val_ (v := .pointer (some ⟨ga, 4, none⟩)) (w1 := w') (by rw [hop]; intro c h; cases h) (by simp [Oper.about, hop]) ?_ ⟨_, rfl, Below.refl _ _, rfl⟩
   unfold execOp
   rw [hop]
   clear hr hd hB
   generalize a'.eval = ρ at e0 ⊢
   go_simp
  ·obtain ⟨hop, hdst⟩ := XReg.op_is (x := .load 49 (.tmp 84)) (d := some 85) ho (by kernel_rfl)
   have e0 : a'.eval (.tmp 84) = .pointer (some ⟨ga, 4, none⟩) := hd 0 84 (by kernel_rfl) (by omega)
   have hc : w'.cell? ⟨ga, 4, none⟩ = some (.slice Ah has.length ch) := (blk_cell ca 4).trans rfl
   have hu0 := Try.underlying49
   refine XReg.val_ (v := .slice Ah has.length ch) (w1 := w') (by rw [hop]; intro c h; cases h) (by simp [Oper.about, hop]) ?_ ⟨_, rfl, Below.refl _ _, rfl⟩
   unfold execOp
   rw [hop]
   clear hr hd hB
   generalize a'.eval = ρ at e0 ⊢
   go_simp
  ·obtain ⟨hop, hdst⟩ := XReg.op_is (x := .fieldAddr 51 (.tmp 2) 0) (d := some 86) ho (by kernel_rfl)
   have e0 := (hr 2 (by kernel_rfl)).trans h2
   have hu0 := Try.underlying51
   refine XReg.val_ (v := .pointer (some ⟨ga, 0, none⟩)) (w1 := w') (by rw [hop]; intro c h; cases h) (by simp [Oper.about, hop]) ?_ ⟨_, rfl, Below.refl _ _, rfl⟩
   unfold execOp
   rw [hop]
   clear hr hd hB
   generalize a'.eval = ρ at e0 ⊢
   go_simp
  ·obtain ⟨hop, hdst⟩ := XReg.op_is (x := .load 3 (.tmp 86)) (d := some 87) ho (by kernel_rfl)
   have e0 : a'.eval (.tmp 86) = .pointer (some ⟨ga, 0, none⟩) := hd 2 86 (by kernel_rfl) (by omega)
   have hc : w'.cell? ⟨ga, 0, none⟩ = some (.int .i64 kind) := (blk_cell ca 0).trans rfl
   have hu0 := Try.underlying3
   refine XReg.val_ (v := .int .i64 kind) (w1 := w') (by rw [hop]; intro c h; cases h) (by simp [Oper.about, hop]) ?_ ⟨_, rfl, Below.refl _ _, rfl⟩
   unfold execOp
   rw [hop]
   clear hr hd hB
   generalize a'.eval = ρ at e0 ⊢
   go_simp
  ·obtain ⟨hop, hdst⟩ := XReg.op_is (x := .fieldAddr 42 (.tmp 11) 1) (d := some 88) ho (by kernel_rfl)
   have e0 := (hr 11 (by kernel_rfl)).trans h11
   have hu0 := Try.underlying42
   refine XReg.val_ (v := .pointer (some ⟨gx, 1, none⟩)) (w1 := w') (by rw [hop]; intro c h; cases h) (by simp [Oper.about, hop]) ?_ ⟨_, rfl, Below.refl _ _, rfl⟩
   unfold execOp
   rw [hop]
   clear hr hd hB
   generalize a'.eval = ρ at e0 ⊢
   go_simp
  ·obtain ⟨hop, hdst⟩ := XReg.op_is (x := .load 9 (.tmp 88)) (d := some 89) ho (by kernel_rfl)
   have e0 : a'.eval (.tmp 88) = .pointer (some ⟨gx, 1, none⟩) := hd 4 88 (by kernel_rfl) (by omega)
   have hc : w'.cell? ⟨gx, 1, none⟩ = some (.string data) := (blk_cell cx 1).trans rfl
   have hu0 := Try.underlying9
   refine XReg.val_ (v := .string data) (w1 := w') (by rw [hop]; intro c h; cases h) (by simp [Oper.about, hop]) ?_ ⟨_, rfl, Below.refl _ _, rfl⟩
   unfold execOp
   rw [hop]
   clear hr hd hB
   generalize a'.eval = ρ at e0 ⊢
   go_simp
  ·obtain ⟨hop, hdst⟩ := XReg.op_is (x := .call { callee := .value (.func 83), args := #[.tmp 87, .tmp 89], argTypes := #[3, 9] }) (d := some 90) ho (by kernel_rfl)
   have e0 : a'.eval (.tmp 87) = .int .i64 kind := hd 3 87 (by kernel_rfl) (by omega)
   have e1 : a'.eval (.tmp 89) = .string data := hd 5 89 (by kernel_rfl) (by omega)
   refine XReg.call_ (ro := none) Try.func83 (by kernel_rfl) rfl #[.int .i64 kind, .string data] hop (by simp [e0, e1]) ?_
   refine (readI.calls k kind data _ w' hr0).mono ?_
   rintro e w2 ⟨rfl, hb2⟩
   exact ⟨_, rfl, _, rfl, hb2, rfl⟩
  obtain ⟨hop, hdst⟩ := XReg.op_is (x := .buildSlice 49 1 #[(0, .tmp 90)]) (d := some 91) ho (by kernel_rfl)
  have e0 : a'.eval (.tmp 90) = .agg #[.int .u64 y.f0.f0.f0, .int .u64 y.f0.f0.f1, .int .i64 y.f0.f1, .int .u32 y.f1, .int .u32 y.f2, .int .i64 y.f3] := hd 6 90 (by kernel_rfl) (by omega)
  have hu0 := Try.underlying49
  have hu1 := Try.underlying58
  have hsz_ := hB.size
  refine XReg.val_ (v := .slice (some ⟨w'.heap.size, 0, none⟩) 1 1) (w1 := w'.alloc (.cells #[.int .u64 y.f0.f0.f0, .int .u64 y.f0.f0.f1, .int .i64 y.f0.f1, .int .u32 y.f1, .int .u32 y.f2, .int .i64 y.f3] 58)) (by rw [hop]; intro c h; cases h) (by simp [Oper.about, hop]) ?_ ⟨_, rfl, below_alloc (Below.refl _ _) _, ⟨_, rfl, blk_new w' _, hsz_⟩⟩
  unfold execOp
  rw [hop]
  clear hr hd hB
  generalize a'.eval = ρ at e0 ⊢
  go_simp
 ·intro o a' w' ho hB hdf hsz' hr hd
  obtain ⟨hop, hdst⟩ := XReg.op_is (x := .call { callee := .builtin .append, args := #[.tmp 85, .tmp 91], argTypes := #[49, 49] }) (d := some 92) ho (by kernel_rfl)
  have e0 : a'.eval (.tmp 85) = .slice Ah has.length ch := hd 1 85 (by kernel_rfl) (by omega)
  obtain ⟨g, e1, hg, hgl⟩ : ∃ g, a'.eval (.tmp 91) = .slice (some ⟨g, 0, none⟩) 1 1 ∧ w'.heap[g]? = some (.cells #[.int .u64 y.f0.f0.f0, .int .u64 y.f0.f0.f1, .int .i64 y.f0.f1, .int .u32 y.f1, .int .u32 y.f2, .int .i64 y.f3] 58 (0, 0)) ∧ w.heap.size ≤ g := hd 7 91 (by kernel_rfl) (by omega)
  have hfill := XReg.fill_eq [84, 85, 86, 87, 88, 89, 90, 91] hsz' hdf (XReg.rest_of (ops := opsOf Try.f53 28) (m := 8) (by kernel_rfl) hr)
  have hne : some g ≠ Value.ownBlock (.slice Ah has.length ch) := fun e => by have := Kd.R_lt HO g e.symm; omega
  obtain ⟨v1, w1, hrun, hR, hgr⟩ := appendAt y o.type (Kd.R_below HO hB) hg (Nat.le_trans hGB hgl) hne (fun q hq => Nat.le_trans hGB (Nat.le_trans hB.size hq)) (Nat.le_trans hbase hB.size) hlen
  refine XReg.val_ (v := v1) (w1 := w1) (by rw [hop]; intro c h; cases h) (by simp [Oper.about, hop, resolve, Target.leads, Sem.run_pure]) ?_ (.inl ⟨rfl, _, v1, by rw [hdst]; exact congrArg (fun a => Act.put a (some 92) v1) hfill, hR, grownFrom_ hB hgr⟩)
  unfold execOp
  simp only [hop, resolve, invoke, builtin, Sem.run_bind, Sem.run_pure, Result.andThen_ok, List.map_toArray, List.map_cons, List.map_nil, e0, e1, hrun]
 ·intro i o a' w' hi ho hT
  have hi11 : i < 11 := by
   have := (Array.getElem?_eq_some_iff.1 ho).1
   have hs : (opsOf Try.f53 28).size = 11 := by kernel_rfl
   omega
  have hcases : i = 9 ∨ i = 10 := by omega
  rcases hcases with rfl | rfl
  ·rcases hT with ⟨_, u, v1, ha, hP⟩ | ⟨e, _⟩ | ⟨e, _⟩
   case inr.inl => omega
   case inr.inr => omega
   obtain ⟨hop, hdst⟩ := XReg.op_is (x := .fieldAddr 51 (.tmp 2) 4) (d := some 93) ho (by kernel_rfl)
   have e0 : a'.eval (.tmp 2) = .pointer (some ⟨ga, 0, none⟩) := by rw [ha, XReg.eval_put_other _ _ _ _ (by decide), XReg.fills_get _ _ _ _ (by rw [hsz0]; decide), if_neg (by decide)]; exact h2
   have hu0 := Try.underlying51
   refine XReg.val_ (v := .pointer (some ⟨ga, 4, none⟩)) (w1 := w') (by rw [hop]; intro c h; cases h) (by simp [Oper.about, hop]) ?_ (.inr (.inl ⟨rfl, u, v1, by rw [hdst, ha], hP⟩))
   unfold execOp
   rw [hop]
   clear ha hP hK HO
   generalize a'.eval = ρ at e0 ⊢
   go_simp
  rcases hT with ⟨e, _⟩ | ⟨_, u, v1, ha, hP⟩ | ⟨e, _⟩
  case inl => omega
  case inr.inr => omega
  obtain ⟨hop, hdst⟩ := XReg.op_is (x := .store 49 (.tmp 93) (.tmp 92)) (d := none) ho (by kernel_rfl)
  have hs2 : (XReg.fills u [84, 85, 86, 87, 88, 89, 90, 91] act).tmps.size = 96 := by rw [(XReg.fills_size _ _ _).1]; exact hsz0
  have hs1 : ((XReg.fills u [84, 85, 86, 87, 88, 89, 90, 91] act).put (some 92) v1).tmps.size = 96 := by
   generalize XReg.fills u [84, 85, 86, 87, 88, 89, 90, 91] act = b at hs2 ⊢
   simpa [Act.put] using hs2
  have e0 : a'.eval (.tmp 93) = .pointer (some ⟨ga, 4, none⟩) := by rw [ha]; exact XReg.eval_put_same _ _ _ (by rw [hs1]; decide)
  have e1 : a'.eval (.tmp 92) = v1 := by rw [ha, XReg.eval_put_other _ _ _ _ (by decide)]; exact XReg.eval_put_same _ _ _ (by rw [hs2]; decide)
  have hR := hP.1
  have hgr := hP.2
  have hbl : w'.heap[ga]? = some (.cells #[.int .i64 kind, .int .u32 iaid, .int .u32 t1, .int .u32 t2, .slice Ah has.length ch, .int .i64 cur] 51 (0, 0)) := (hgr.block ga (blk_lt ba) (fun e => by have := HO.1 ga e.symm; omega)).trans ba
  have hc := (blk_cell hbl 4).trans rfl
  have hf := blk_frozen hbl 4
  have hu0 := Try.underlying49
  refine XReg.skip_ (w1 := w'.setCell ⟨ga, 4, none⟩ v1) (by rw [hop]; intro c h; cases h) (by simp [Oper.about, hop]) ?_ (.inr (.inr ⟨rfl, u, v1, w', by rw [hdst]; exact ha, hP, rfl⟩))
  obtain ⟨A1, c1, hv1⟩ := Kd.R_slice hR
  rw [hv1] at e1 ⊢
  unfold execOp
  rw [hop]
  clear ha hP hR hgr hK HO hv1 hs1 hs2 hr0 ba bx h2 h11
  generalize a'.eval = ρ at e0 e1 ⊢
  go_simp
 intro a' w' hT
 have hs : (opsOf Try.f53 28).size = 11 := by kernel_rfl
 rw [hs] at hT
 rcases hT with ⟨e, _⟩ | ⟨e, _⟩ | ⟨_, u, v1, W, ha, hP, hw⟩
 case inl => omega
 case inr.inl => omega
 rw [ha, hw]
 exact hK u v1 W hP.1 hP.2
def getFallV (w0 : World) (ga gx : Nat) (kind : Int) (Ah : Option Addr) (ch : Nat) (has : List S58) (data : ByteArray) (y : S58) : Nat → Value → World → Prop
  | 0, v, _ => v = .pointer (some ⟨ga, 4, none⟩)
  | 1, v, _ => v = .slice Ah has.length ch
  | 2, v, _ => v = .pointer (some ⟨ga, 0, none⟩)
  | 3, v, _ => v = .int .i64 kind
  | 4, v, _ => v = .pointer (some ⟨gx, 1, none⟩)
  | 5, v, _ => v = .string data
  | 6, _, _ => False
  | 7, _, _ => False
  | _, _, _ => True
set_option maxHeartbeats 4000000 in
set_option maxRecDepth 100000 in
theorem getFall (ops : Array Oper) (hops : ops = opsOf Try.f53 28) (id : Nat) (Q : Exit → Act → World → Prop) (act : Act) (w : World) (hsz0 : act.tmps.size = 96) (k : Nat) (ga ge gx : Nat) (kind iaid t1 t2 cur xc : Int) (Ah : Option Addr) (ch : Nat) (has : List S58) (data : ByteArray) (x : Int)
 (h2 : act.eval (.tmp 2) = .pointer (some ⟨ga, 0, none⟩)) (h11 : act.eval (.tmp 11) = .pointer (some ⟨gx, 0, none⟩)) (h3 : act.eval (.tmp 3) = .pointer (some ⟨ge, 0, none⟩))
 (ba : w.heap[ga]? = some (.cells #[.int .i64 kind, .int .u32 iaid, .int .u32 t1, .int .u32 t2, .slice Ah has.length ch, .int .i64 cur] 51 (0, 0))) (bx : w.heap[gx]? = some (.cells #[.int .u16 xc, .string data] 42 (0, 0)))
 (hr0 : readI k kind data = some (.error x))
 (hK : ∀ (a' : Act) (W : World), a'.defers = act.defers → a'.eval (.tmp 2) = .pointer (some ⟨ga, 0, none⟩) → a'.eval (.tmp 3) = .pointer (some ⟨ge, 0, none⟩) → Below w.heap.size w W → Q (.panic [{ v := fault x, recovered := false }]) a' W) :
 (Code.region id ops true).wp Try.prog Q act w := by
 subst hops
 refine (wpIn_wide (n := 9)).1 (XReg.region_goT (by kernel_rfl) 8 (by rw [hsz0]; kernel_rfl) (getFallV w ga gx kind Ah ch has data ⟨⟨⟨0, 0⟩, 0⟩, 0, 0, 0⟩)
  (fun w' => Below w.heap.size w w') (fun _ _ _ => False) ?_ (fun w1 w2 h1 h2 => below_step h1 h2) ((Below.refl _ w).drew) ?_ ?_ ?_ ?_)
 ·intro i v w1 w2 hv hb
  match i, hv with
  | 0, hv | 1, hv | 2, hv | 3, hv | 4, hv | 5, hv | 6, hv | 7, hv => exact hv
  | _ + 8, _ => trivial
 ·intro i o a' w' hi ho hB hdf hr hd
  have ca := blk_below ba hB
  have cx := blk_below bx hB
  have hcases : i = 0 ∨ i = 1 ∨ i = 2 ∨ i = 3 ∨ i = 4 ∨ i = 5 ∨ i = 6 ∨ i = 7 := by omega
  rcases hcases with rfl | rfl | rfl | rfl | rfl | rfl | rfl | rfl
  ·obtain ⟨hop, hdst⟩ := XReg.op_is (x := .fieldAddr 51 (.tmp 2) 4) (d := some 84) ho (by kernel_rfl)
   have e0 := (hr 2 (by kernel_rfl)).trans h2
   have hu0 := Try.underlying51
   refine XReg.val_ (v := .pointer (some ⟨ga, 4, none⟩)) (w1 := w') (by rw [hop]; intro c h; cases h) (by simp [Oper.about, hop]) ?_ ⟨_, rfl, Below.refl _ _, rfl⟩
   unfold execOp
   rw [hop]
   clear hr hd hB
   generalize a'.eval = ρ at e0 ⊢
   go_simp
  ·obtain ⟨hop, hdst⟩ := XReg.op_is (x := .load 49 (.tmp 84)) (d := some 85) ho (by kernel_rfl)
   have e0 : a'.eval (.tmp 84) = .pointer (some ⟨ga, 4, none⟩) := hd 0 84 (by kernel_rfl) (by omega)
   have hc : w'.cell? ⟨ga, 4, none⟩ = some (.slice Ah has.length ch) := (blk_cell ca 4).trans rfl
   have hu0 := Try.underlying49
   refine XReg.val_ (v := .slice Ah has.length ch) (w1 := w') (by rw [hop]; intro c h; cases h) (by simp [Oper.about, hop]) ?_ ⟨_, rfl, Below.refl _ _, rfl⟩
   unfold execOp
   rw [hop]
   clear hr hd hB
   generalize a'.eval = ρ at e0 ⊢
   go_simp
  ·obtain ⟨hop, hdst⟩ := XReg.op_is (x := .fieldAddr 51 (.tmp 2) 0) (d := some 86) ho (by kernel_rfl)
   have e0 := (hr 2 (by kernel_rfl)).trans h2
   have hu0 := Try.underlying51
   refine XReg.val_ (v := .pointer (some ⟨ga, 0, none⟩)) (w1 := w') (by rw [hop]; intro c h; cases h) (by simp [Oper.about, hop]) ?_ ⟨_, rfl, Below.refl _ _, rfl⟩
   unfold execOp
   rw [hop]
   clear hr hd hB
   generalize a'.eval = ρ at e0 ⊢
   go_simp
  ·obtain ⟨hop, hdst⟩ := XReg.op_is (x := .load 3 (.tmp 86)) (d := some 87) ho (by kernel_rfl)
   have e0 : a'.eval (.tmp 86) = .pointer (some ⟨ga, 0, none⟩) := hd 2 86 (by kernel_rfl) (by omega)
   have hc : w'.cell? ⟨ga, 0, none⟩ = some (.int .i64 kind) := (blk_cell ca 0).trans rfl
   have hu0 := Try.underlying3
   refine XReg.val_ (v := .int .i64 kind) (w1 := w') (by rw [hop]; intro c h; cases h) (by simp [Oper.about, hop]) ?_ ⟨_, rfl, Below.refl _ _, rfl⟩
   unfold execOp
   rw [hop]
   clear hr hd hB
   generalize a'.eval = ρ at e0 ⊢
   go_simp
  ·obtain ⟨hop, hdst⟩ := XReg.op_is (x := .fieldAddr 42 (.tmp 11) 1) (d := some 88) ho (by kernel_rfl)
   have e0 := (hr 11 (by kernel_rfl)).trans h11
   have hu0 := Try.underlying42
   refine XReg.val_ (v := .pointer (some ⟨gx, 1, none⟩)) (w1 := w') (by rw [hop]; intro c h; cases h) (by simp [Oper.about, hop]) ?_ ⟨_, rfl, Below.refl _ _, rfl⟩
   unfold execOp
   rw [hop]
   clear hr hd hB
   generalize a'.eval = ρ at e0 ⊢
   go_simp
  ·obtain ⟨hop, hdst⟩ := XReg.op_is (x := .load 9 (.tmp 88)) (d := some 89) ho (by kernel_rfl)
   have e0 : a'.eval (.tmp 88) = .pointer (some ⟨gx, 1, none⟩) := hd 4 88 (by kernel_rfl) (by omega)
   have hc : w'.cell? ⟨gx, 1, none⟩ = some (.string data) := (blk_cell cx 1).trans rfl
   have hu0 := Try.underlying9
   refine XReg.val_ (v := .string data) (w1 := w') (by rw [hop]; intro c h; cases h) (by simp [Oper.about, hop]) ?_ ⟨_, rfl, Below.refl _ _, rfl⟩
   unfold execOp
   rw [hop]
   clear hr hd hB
   generalize a'.eval = ρ at e0 ⊢
   go_simp
  ·obtain ⟨hop, hdst⟩ := XReg.op_is (x := .call { callee := .value (.func 83), args := #[.tmp 87, .tmp 89], argTypes := #[3, 9] }) (d := some 90) ho (by kernel_rfl)
   have e0 : a'.eval (.tmp 87) = .int .i64 kind := hd 3 87 (by kernel_rfl) (by omega)
   have e1 : a'.eval (.tmp 89) = .string data := hd 5 89 (by kernel_rfl) (by omega)
   refine XReg.callp_ (chain := [{ v := fault x, recovered := false }]) Try.func83 (by kernel_rfl) rfl #[.int .i64 kind, .string data] hop (by simp [e0, e1]) ?_
   refine (readI.calls k kind data _ w' hr0).mono ?_
   rintro e w2 ⟨rfl, hb2⟩
   exact ⟨rfl, hK a' w2 hdf ((hr 2 (by kernel_rfl)).trans h2) ((hr 3 (by kernel_rfl)).trans h3) (below_step hB hb2)⟩
  obtain ⟨hop, hdst⟩ := XReg.op_is (x := .buildSlice 49 1 #[(0, .tmp 90)]) (d := some 91) ho (by kernel_rfl)
  have e0 : False := hd 6 90 (by kernel_rfl) (by omega)
  exact e0.elim
 ·intro o a' w' ho hB hdf hsz' hr hd
  have e0 : False := hd 7 91 (by kernel_rfl) (by omega)
  exact e0.elim
 ·intro i o a' w' hi ho hT
  exact hT.elim
 intro a' w' hT
 exact hT.elim
def getL (k : Nat) (kind part : Int) : List S42 → List S58 → Int → Option (Except Int (List S58 × Int))
  | [], has, cur => some (.ok (has, cur))
  | x :: l, has, cur =>
    if x.f0 = 13 then (opt6_GetStatus.f k x.f1).bind fun c => if c.2 = true then getL k kind part l has (if cur = -1 then c.1 else cur) else some (.error 130)
    else if x.f0 = part then (if 8 ≤ has.length then some (.error 6) else (readI k kind x.f1).bind fun r => match r with | .ok y => getL k kind part l (has ++ [y]) cur | .error e => some (.error e))
    else getL k kind part l has cur
def getB (k : Nat) (kind : Int) (size : Nat) (part : Int) (data : ByteArray) : Option (Except Int (Int × Int × Int × List S58 × Int)) :=
  (octet_Cut.f data 0 size).bind fun h => if h.2 = true then (octet_Get32.f k h.1 0).bind fun i => (octet_Get32.f k h.1 4).bind fun p => (octet_Get32.f k h.1 8).bind fun q =>
    if size ≤ data.size then (opt6_Parse.f k (data.extract size data.size)).bind fun l => if l.2 = 0 then (getL k kind part l.1 [] (-1)).bind fun r => some (match r with | .ok y => .ok (i.1, p.1, q.1, y.1, y.2) | .error e => .error e) else some (.error l.2) else none else some (.error 3)
def getO (kind : Int) (r : Except Int (Int × Int × Int × List S58 × Int)) : Int × Int × Int × Int × List S58 × Int × Int := match r with
  | .ok y => (kind, y.1, y.2.1, y.2.2.1, y.2.2.2.1, y.2.2.2.2, 0)
  | .error e => (0, 0, 0, 0, [], 0, e)
def getK (k : Nat) (code : Int) (data : ByteArray) : Option (Int × Int × Int × Int × List S58 × Int × Int) :=
  if code = 3 then (getB k 2 12 5 data).bind fun r => some (getO 2 r) else if code = 4 then (getB k 3 4 5 data).bind fun r => some (getO 3 r) else if code = 25 then (getB k 4 12 26 data).bind fun r => some (getO 4 r) else some (0, 0, 0, 0, [], 0, 130)
def getR (w : World) (r : Int × Int × Int × Int × List S58 × Int × Int) (e : Ending) (w' : World) : Prop :=
  ∃ v4_ : Value, e = .returned (.tuple #[.agg #[.int .i64 r.1, .int .u32 r.2.1, .int .u32 r.2.2.1, .int .u32 r.2.2.2.1, v4_, .int .i64 r.2.2.2.2.2.1], .int .i64 r.2.2.2.2.2.2]) ∧ Kd.R k58 58 w' w.heap.size (fun _ => True) v4_ r.2.2.2.2.1 ∧ Below w.heap.size w w'
theorem getEnds (W : World) (ga ge : Nat) (x : Int) (cs : Array Value) (hs : cs.size = 6) {a : Act} (ba : W.heap[ga]? = some (.cells cs 51 (0, 0))) (be : W.heap[ge]? = some (.cells #[.int .i64 x] 30 (0, 0))) (h2 : a.eval (.tmp 2) = .pointer (some ⟨ga, 0, none⟩)) (h3 : a.eval (.tmp 3) = .pointer (some ⟨ge, 0, none⟩)) :
 (results Try.f53 a.tmps).run Try.prog W = .ok (.tuple #[.agg cs, .int .i64 x]) W := by
 have hi37 : (Try.prog.info? 51).map (·.size) = some cs.size := by rw [hs]; kernel_rfl
 have r2 := run_loadVar_row (P := Try.prog) W ga 51 51 cs (0, 0) _ ba Try.underlying51 rfl hi37
 have hc3 : W.cell? ⟨ge, 0, none⟩ = some (.int .i64 x) := (blk_cell be 0).trans rfl
 have hu24 := Try.underlying30
 have hfr : Try.f53.results = #[.cell 2 51, .cell 3 30] := by kernel_rfl
 have hp2 : a.tmps[2]?.getD undef = .pointer (some ⟨ga, 0, none⟩) := by simpa [Act.eval] using h2
 have hp3 : a.tmps[3]?.getD undef = .pointer (some ⟨ge, 0, none⟩) := by simpa [Act.eval] using h3
 have r3 : (loadVar 30 ⟨ge, 0, none⟩).run Try.prog W = .ok (.int .i64 x) W := by go_simp
 simp [results, hfr, hp2, hp3, asAddr, r2, r3, Result.andThen]
/-- What has been panicked with is caught. -/
theorem getFalls (w W : World) (ga ge : Nat) (x cur : Int) (kind iaid t1 t2 code : Int) (has : Value) {a : Act} (hd : a.defers = [{ target := .fn (.func 79) #[.pointer (some ⟨ga, 0, none⟩), .pointer (some ⟨ge, 0, none⟩)], args := #[] }]) (h2 : a.eval (.tmp 2) = .pointer (some ⟨ga, 0, none⟩)) (h3 : a.eval (.tmp 3) = .pointer (some ⟨ge, 0, none⟩)) (hne : ga ≠ ge) (h1 : w.heap.size ≤ ga) (h4 : w.heap.size ≤ ge)
 (ha : W.heap[ga]? = some (.cells #[.int .i64 kind, .int .u32 iaid, .int .u32 t1, .int .u32 t2, has, .int .i64 code] 51 (0, 0))) (hb : W.heap[ge]? = some (.cells #[.int .i64 cur] 30 (0, 0))) (hB : Below w.heap.size w W) :
 bodyPostD Try.prog Try.f53 (getR w (0, 0, 0, 0, [], 0, x)) (.panic [{ v := fault x, recovered := false }]) a W := by
 show Leaves Try.prog Try.f53 a.tmps _ a.defers (.panicking [{ v := fault x, recovered := false }]) W
 rw [hd]
 refine leaves_cons (f := 79) (args := #[.pointer (some ⟨ga, 0, none⟩), .pointer (some ⟨ge, 0, none⟩)]) (by simp) (by simp [go_sem]) ?_
 refine (caught_fault ga ge x cur kind iaid t1 t2 code has [] W hne ha hb).mono ?_
 rintro e u' w' ⟨rfl, rfl, q1, q2, q3⟩
 refine ⟨_, getEnds w' ga ge x _ rfl q1 q2 h2 h3, _, rfl, Kd.R_nil _ _ _ _ _, ?_⟩
 exact hB.trans (q3 w.heap.size h1 h4)
theorem getIdle (w W : World) (ga ge : Nat) (x : Int) (kind iaid t1 t2 code : Int) (hv : Value) (has : List S58) {ok : Nat → Prop} {a : Act} (hd : a.defers = [{ target := .fn (.func 79) #[.pointer (some ⟨ga, 0, none⟩), .pointer (some ⟨ge, 0, none⟩)], args := #[] }]) (h2 : a.eval (.tmp 2) = .pointer (some ⟨ga, 0, none⟩)) (h3 : a.eval (.tmp 3) = .pointer (some ⟨ge, 0, none⟩))
 (ha : W.heap[ga]? = some (.cells #[.int .i64 kind, .int .u32 iaid, .int .u32 t1, .int .u32 t2, hv, .int .i64 code] 51 (0, 0))) (hb : W.heap[ge]? = some (.cells #[.int .i64 x] 30 (0, 0))) (hR : Kd.R k58 58 W w.heap.size ok hv has) (hB : Below w.heap.size w W) :
 bodyPostD Try.prog Try.f53 (getR w (kind, iaid, t1, t2, has, code, x)) .ret a W := by
 show Leaves Try.prog Try.f53 a.tmps _ a.defers .returning W
 rw [hd]
 refine leaves_cons (f := 79) (args := #[.pointer (some ⟨ga, 0, none⟩), .pointer (some ⟨ge, 0, none⟩)]) (by simp) (by simp [go_sem]) ?_
 refine (caught_idle ga ge W).mono ?_
 rintro e u' w' ⟨rfl, rfl, hb2⟩
 refine ⟨_, getEnds w' ga ge x _ rfl (blk_below ha hb2) (blk_below hb hb2) h2 h3, _, rfl, Kd.R_mono (Kd.R_below hR hb2) (fun _ _ => trivial), below_step hB hb2⟩
set_option maxHeartbeats 8000000 in
set_option maxRecDepth 100000 in
theorem getBody (k ix : Nat) (kind : Int) (size : Nat) (part code : Int) (data : ByteArray) (r : Except Int (Int × Int × Int × List S58 × Int)) (w : World) (hix : kindIx code = (ix : Int)) (hix3 : ix < 3) (hcell : (#[Value.int .i64 2, .int .i64 3, .int .i64 4] : Array Value)[ix]? = some (.int .i64 kind)) (hsz : (kind = 3 ∧ size = 4 ∧ part = 5) ∨ (kind = 4 ∧ size = 12 ∧ part = 26) ∨ (kind = 2 ∧ size = 12 ∧ part = 5)) (h : getB k kind size part data = some r) :
 Calls Try.prog 53 #[.agg #[.int .u16 code, .string data]] w (getR w (getO kind r)) := by
 have H := ak_ h
 have HIX := ak_ hix
 have HCELL := ak_ hcell
 have HSZ := ak_ hsz
 have hu37 := Try.underlying51
 have hu40 := Try.underlying42
 have hu76 := Try.underlying58
 have hi37 : (Try.prog.info? 51).map (·.size) = some 6 := by kernel_rfl
 have hi40 : (Try.prog.info? 42).map (·.size) = some 2 := by kernel_rfl
 have hi76 : (Try.prog.info? 58).map (·.size) = some 6 := by kernel_rfl
 have hmf : ∀ (fn : Fn) (first cap : Array Value) (w : World), (Instr.makeFunc fn first cap).run Try.prog w = .ok (.func fn first cap) w := fun _ _ _ _ => rfl
 clear h hix hcell hsz
 go_enter_defers Try.func53, Try.ntmps53
 go_upto_region 1 with fail
 have BO0 := ak_ (blk_alloc (blk_alloc (blk_new w (.cells #[.int .u16 code, .string data] 42)) (.cells #[.int .i64 0, .int .u32 0, .int .u32 0, .int .u32 0, .slice none 0 0, .int .i64 0] 51)) (.cells #[.int .i64 0] 30))
 have ba := blk_alloc (blk_new (w.alloc (.cells #[.int .u16 code, .string data] 42)) (.cells #[.int .i64 0, .int .u32 0, .int .u32 0, .int .u32 0, .slice none 0 0, .int .i64 0] 51)) (.cells #[.int .i64 0] 30)
 have be := blk_new ((w.alloc (.cells #[.int .u16 code, .string data] 42)).alloc (.cells #[.int .i64 0, .int .u32 0, .int .u32 0, .int .u32 0, .slice none 0 0, .int .i64 0] 51)) (.cells #[.int .i64 0] 30)
 have HB0 := ak_ (below_alloc (below_alloc (below_alloc (Below.refl _ w) (.cells #[.int .u16 code, .string data] 42)) (.cells #[.int .i64 0, .int .u32 0, .int .u32 0, .int .u32 0, .slice none 0 0, .int .i64 0] 51)) (.cells #[.int .i64 0] 30))
 rw [World.size_alloc] at ba
 rw [World.size_alloc, World.size_alloc] at be
 have BA0 := ak_ ba
 have BE0 := ak_ be
 clear ba be
 generalize ((w.alloc (.cells #[.int .u16 code, .string data] 42)).alloc (.cells #[.int .i64 0, .int .u32 0, .int .u32 0, .int .u32 0, .slice none 0 0, .int .i64 0] 51)).alloc (.cells #[.int .i64 0] 30) = w3 at BO0 BA0 BE0 HB0 ⊢
 obtain ⟨go, hgo⟩ : ∃ go, go = w.heap.size := ⟨_, rfl⟩
 obtain ⟨ga, hga⟩ : ∃ ga, ga = w.heap.size + 1 := ⟨_, rfl⟩
 obtain ⟨ge, hge⟩ : ∃ ge, ge = w.heap.size + 1 + 1 := ⟨_, rfl⟩
 have GA := ak_ (show w.heap.size ≤ ga by omega)
 have GE := ak_ (show w.heap.size ≤ ge by omega)
 have GAE := ak_ (show ga ≠ ge by omega)
 have GEA := ak_ (show ge ≠ ga by omega)
 have GOA := ak_ (show go ≠ ga by omega)
 have GOE := ak_ (show go ≠ ge by omega)
 rw [← hgo] at BO0
 rw [← hga] at BA0
 rw [← hge] at BE0
 rw [← hge, ← hga, ← hgo]
 clear hgo hga hge
 have BS0 := ak_ (blk_new w3 (.cells #[.int .i64 2, .int .i64 3, .int .i64 4] 3))
 have BO1 := ak_ (blk_alloc BO0.out (.cells #[.int .i64 2, .int .i64 3, .int .i64 4] 3))
 have BA1 := ak_ (blk_alloc BA0.out (.cells #[.int .i64 2, .int .i64 3, .int .i64 4] 3))
 have BE1 := ak_ (blk_alloc BE0.out (.cells #[.int .i64 2, .int .i64 3, .int .i64 4] 3))
 have HB1 := ak_ (below_alloc HB0.out (.cells #[.int .i64 2, .int .i64 3, .int .i64 4] 3))
 go_upto_region 3 with (go_at_call 77; refine (kindIx_ code w3.heap.size go _ BS0.out ((blk_cell BO1.out 0).trans rfl)).mono ?_; rintro e w4 ⟨rfl, hb⟩; have BS := ak_ (blk_below BS0.out hb); have BO := ak_ (blk_below BO1.out hb); have BA := ak_ (blk_below BA1.out hb); have BE := ak_ (blk_below BE1.out hb); have HB := ak_ (below_step HB1.out hb); clear hb)
 generalize w3.heap.size = gs at BS ⊢
 rw [HIX.out]
 clear BS0 BO1 BA1 BE1 HB1 BO0 BA0 BE0 HB0
 have hz0 : ¬ ((ix : Int) < 0) := by omega
 have hz1 : (0 : Int) ≤ (ix : Int) := by omega
 have hz3 : (ix : Int) < 3 := by omega
 have hcs : w4.cell? ⟨gs, 0 + ix, none⟩ = some (.int .i64 kind) := by
  rw [Nat.zero_add]
  exact (blk_cell BS.out ix).trans HCELL.out
 have hcs2 : w4.cell? ⟨gs, ix, none⟩ = some (.int .i64 kind) := (blk_cell BS.out ix).trans HCELL.out
 go_upto_block 0 with ((with_reducible refine gate_store (p := 2) rfl ?_); refine XBox.storeL_ rfl rfl 51 rfl ga rfl #[.int .i64 0, .int .u32 0, .int .u32 0, .int .u32 0, .slice none 0 0, .int .i64 0] #[.int .i64 kind, .int .u32 0, .int .u32 0, .int .u32 0, .slice none 0 0, .int .i64 (-1)] rfl BA.out hi37 (Eq.refl 6) (by simp [Value.oneCell']) ?_; intro w5 hw1 hw2 hw3; have BAv := ak_ hw1; have HBv := ak_ (HB.out.trans (hw2 _ GA.out)); have BOv := ak_ ((hw3 go GOA.out).trans BO.out); have BEv := ak_ ((hw3 ge GEA.out).trans BE.out); have d0_ := (blk_cell BAv.out 0).trans rfl; clear hw1 hw2 hw3)
 clear BS BO BA BE HB hcs hcs2
 go_cut [6, 7] from 12 to 95 (fun s6 s7 wc => s6 = .int .i64 (size : Int) ∧ s7 = .int .u16 part ∧ Aside0 (wc.heap[go]? = some (.cells #[.int .u16 code, .string data] 42 (0, 0))) ∧ Aside0 (wc.heap[ga]? = some (.cells #[.int .i64 kind, .int .u32 0, .int .u32 0, .int .u32 0, .slice none 0 0, .int .i64 (-1)] 51 (0, 0))) ∧ Aside0 (wc.heap[ge]? = some (.cells #[.int .i64 0] 30 (0, 0))) ∧ Aside0 (Below w.heap.size w wc))
 case first =>
  rcases HSZ.out with ⟨rfl, rfl, rfl⟩ | ⟨rfl, rfl, rfl⟩ | ⟨rfl, rfl, rfl⟩
  all_goals
   go_wp2
   go_meet
   case rel => exact ⟨rfl, rfl, BOv, BAv, BEv, HBv⟩
 case rest =>
 clear BOv BAv BEv HBv d0_
 obtain ⟨rfl, rfl, BO, BA, BE, HB⟩ := hcut
 have h := H.out
 unfold getB at h
 obtain ⟨⟨head, okc⟩, hcut, h⟩ := Option.bind_eq_some_iff.1 h
 dsimp only at h
 have HCUT := ak_ hcut
 have o1_ := (blk_cell BO.out 1).trans rfl
 clear hcut H
 cases okc with
 | false =>
  rw [if_neg (by decide)] at h
  obtain rfl := Option.some.inj h
  clear h
  go_wp2_with (go_at_call 80; refine (ahead_bad data size head _ HCUT.out).mono ?_; rintro e w6 ⟨rfl, hb⟩; have BA6 := ak_ (blk_below BA.out hb); have BE6 := ak_ (blk_below BE.out hb); have HB6 := ak_ (below_step HB.out hb); clear hb)
  exact getFalls w w6 ga ge 3 0 kind 0 0 0 (-1) _ rfl rfl rfl GAE.out GA.out GE.out BA6.out BE6.out HB6.out
 | true =>
 rw [if_pos rfl] at h
 obtain ⟨⟨iaid, bi⟩, hi, h⟩ := Option.bind_eq_some_iff.1 h
 obtain ⟨⟨t1, b1⟩, h1, h⟩ := Option.bind_eq_some_iff.1 h
 obtain ⟨⟨t2, b2⟩, h2, h⟩ := Option.bind_eq_some_iff.1 h
 dsimp only at h
 have HI := ak_ hi
 have H1 := ak_ h1
 have H2 := ak_ h2
 by_cases hds : size ≤ data.size
 case neg => rw [if_neg hds] at h; cases h
 rw [if_pos hds] at h
 obtain ⟨⟨l, el⟩, hl, h⟩ := Option.bind_eq_some_iff.1 h
 dsimp only at h
 have HL := ak_ hl
 have HDS := ak_ hds
 have H := ak_ h
 clear hi h1 h2 hl hds h
 go_upto_region 14 with (go_at_call 80; refine (ahead_ok data size head _ HCUT.out).mono ?_; rintro e w6 ⟨rfl, hb⟩; have BA6 := ak_ (blk_below BA.out hb); have BE6 := ak_ (blk_below BE.out hb); have BO6 := ak_ (blk_below BO.out hb); have HB6 := ak_ (below_step HB.out hb); clear hb)
 clear BO BA BE HB o1_
 go_upto_region 15 with (go_at_call 29; refine (octet_Get32.calls k head 0 iaid bi _ HI.out).mono ?_; rintro e w7 ⟨rfl, hb⟩; have BAn := ak_ (blk_below BA6.out hb); have BEn := ak_ (blk_below BE6.out hb); have BOn := ak_ (blk_below BO6.out hb); have HBn := ak_ (below_step HB6.out hb); have c_ := (blk_cell BAn.out 1).trans rfl; have f_ := blk_frozen BAn.out 1; clear hb)
 have BA7 := ak_ (blk_put BAn.out 1 (.int .u32 iaid) rfl)
 have BE7 := ak_ (blk_far BEn.out (p := ⟨ga, 1, none⟩) GEA.out (.int .u32 iaid))
 have BO7 := ak_ (blk_far BOn.out (p := ⟨ga, 1, none⟩) GOA.out (.int .u32 iaid))
 have HB7 := ak_ (show Below w.heap.size w (w7.setCell ⟨ga, 1, none⟩ (.int .u32 iaid)) from below_set HBn.out GA.out)
 clear BAn BEn BOn HBn c_ f_ BA6 BE6 BO6 HB6
 generalize w7.setCell ⟨ga, 1, none⟩ (.int .u32 iaid) = v7 at BA7 BE7 BO7 HB7 ⊢
 go_upto_region 16 with (go_at_call 29; refine (octet_Get32.calls k head 4 t1 b1 _ H1.out).mono ?_; rintro e w8 ⟨rfl, hb⟩; have BAn := ak_ (blk_below BA7.out hb); have BEn := ak_ (blk_below BE7.out hb); have BOn := ak_ (blk_below BO7.out hb); have HBn := ak_ (below_step HB7.out hb); have c_ := (blk_cell BAn.out 2).trans rfl; have f_ := blk_frozen BAn.out 2; clear hb)
 have BA8 := ak_ (blk_put BAn.out 2 (.int .u32 t1) rfl)
 have BE8 := ak_ (blk_far BEn.out (p := ⟨ga, 2, none⟩) GEA.out (.int .u32 t1))
 have BO8 := ak_ (blk_far BOn.out (p := ⟨ga, 2, none⟩) GOA.out (.int .u32 t1))
 have HB8 := ak_ (show Below w.heap.size w (w8.setCell ⟨ga, 2, none⟩ (.int .u32 t1)) from below_set HBn.out GA.out)
 clear BAn BEn BOn HBn c_ f_ BA7 BE7 BO7 HB7
 generalize w8.setCell ⟨ga, 2, none⟩ (.int .u32 t1) = v8 at BA8 BE8 BO8 HB8 ⊢
 go_upto_region 17 with (go_at_call 29; refine (octet_Get32.calls k head 8 t2 b2 _ H2.out).mono ?_; rintro e w9 ⟨rfl, hb⟩; have BAn := ak_ (blk_below BA8.out hb); have BEn := ak_ (blk_below BE8.out hb); have BOn := ak_ (blk_below BO8.out hb); have HBn := ak_ (below_step HB8.out hb); have c_ := (blk_cell BAn.out 3).trans rfl; have f_ := blk_frozen BAn.out 3; clear hb)
 have BA9 := ak_ (blk_put BAn.out 3 (.int .u32 t2) rfl)
 have BE9 := ak_ (blk_far BEn.out (p := ⟨ga, 3, none⟩) GEA.out (.int .u32 t2))
 have BO9 := ak_ (blk_far BOn.out (p := ⟨ga, 3, none⟩) GOA.out (.int .u32 t2))
 have HB9 := ak_ (show Below w.heap.size w (w9.setCell ⟨ga, 3, none⟩ (.int .u32 t2)) from below_set HBn.out GA.out)
 clear BAn BEn BOn HBn c_ f_ BA8 BE8 BO8 HB8
 generalize w9.setCell ⟨ga, 3, none⟩ (.int .u32 t2) = v9 at BA9 BE9 BO9 HB9 ⊢
 have BA := ak_ (show v9.heap[ga]? = some (.cells #[.int .i64 kind, .int .u32 iaid, .int .u32 t1, .int .u32 t2, .slice none 0 0, .int .i64 (-1)] 51 (0, 0)) from BA9.out)
 have o1_ := (blk_cell BO9.out 1).trans rfl
 have z1 : (size ≤ data.size) = True := eq_true HDS.out
 have z2 : ((size : Int) ≤ (data.size : Int)) = True := eq_true (by have := HDS.out; omega)
 have z3 : (0 : Int) ≤ (size : Int) := by omega
 go_upto_region 18 with (go_at_call 19; refine (opt6_Parse.calls k _ l el _ HL.out).mono ?_; rintro e w10 ⟨v0, rfl, hor, hb⟩; have BAp := ak_ (blk_below BA.out hb); have BEp := ak_ (blk_below BE9.out hb); have HBp := ak_ (below_step HB9.out hb); have HOR := ak_ (Kd.R_mono (ok' := fun q => v9.heap.size ≤ q ∧ q < w10.heap.size) (Kd.R_bound hor) (fun q hq => ⟨hq.2.1, hq.2.2.1⟩)); have e0_ := (blk_cell BEp.out 0).trans rfl; have g0_ := blk_frozen BEp.out 0; clear hb hor)
 have GAB := ak_ (blk_lt BA.out)
 have GEB := ak_ (blk_lt BE9.out)
 have GAG := ak_ (blk_lt BAp.out)
 have GEG := ak_ (blk_lt BEp.out)
 have GWG := ak_ HBp.out.size
 have BA1 := ak_ (blk_far BAp.out (p := ⟨ge, 0, none⟩) GAE.out (.int .i64 el))
 have BE1 := ak_ (blk_put BEp.out 0 (.int .i64 el) rfl)
 have HB1 := ak_ (show Below w.heap.size w (w10.setCell ⟨ge, 0, none⟩ (.int .i64 el)) from below_set HBp.out GE.out)
 have HO1 := ak_ (Kd.R_far HOR.out (p := ⟨ge, 0, none⟩) (fun q hq => Nat.ne_of_gt (Nat.lt_of_lt_of_le GEB.out hq.1)) (.int .i64 el))
 have SZ1 := ak_ (show w10.heap.size ≤ (w10.setCell ⟨ge, 0, none⟩ (.int .i64 el)).heap.size by rw [World.size_setCell]; exact Nat.le_refl _)
 clear BAp BEp HBp HOR e0_ g0_ BA BA9 BE9 HB9 BO9 o1_ z1 z2 z3
 generalize w10.setCell ⟨ge, 0, none⟩ (.int .i64 el) = w11 at BA1 BE1 HB1 HO1 SZ1 ⊢
 generalize w10.heap.size = GB at HO1 SZ1 GAG GEG GWG
 generalize v9.heap.size = B at HO1 GAB GEB
 have BE1 := ak_ (show w11.heap[ge]? = some (.cells #[.int .i64 el] 30 (0, 0)) from BE1.out)
 have e0_ := (blk_cell BE1.out 0).trans rfl
 have h := H.out
 by_cases hel : el = 0
 case neg =>
  rw [if_neg hel] at h
  obtain rfl := Option.some.inj h
  have helb : (el != 0) = true := by simpa using hel
  go_wp2_with (go_at_call 81; refine (must_bad el helb _).mono ?_; rintro e w12 ⟨rfl, hb⟩; have BAf := ak_ (blk_below BA1.out hb); have BEf := ak_ (blk_below BE1.out hb); have HBf := ak_ (below_step HB1.out hb); clear hb)
  exact getFalls w w12 ga ge el el kind iaid t1 t2 (-1) _ rfl rfl rfl GAE.out GA.out GE.out BAf.out BEf.out HBf.out
 case pos =>
 subst hel
 rw [if_pos rfl] at h
 obtain ⟨r0, hr0, h⟩ := Option.bind_eq_some_iff.1 h
 obtain rfl := Option.some.inj h
 have HR0 := ak_ hr0
 clear H hr0 h
 go_upto_region 19 with (go_at_call 81; refine (must_ok _).mono ?_; rintro e w12 ⟨rfl, hb⟩; have BA := ak_ (blk_below BA1.out hb); have BE := ak_ (blk_below BE1.out hb); have HB := ak_ (below_step HB1.out hb); have HO := ak_ (Kd.R_below HO1.out hb); have SZ := ak_ (Nat.le_trans SZ1.out hb.size); clear hb)
 clear BA1 BE1 HB1 HO1 SZ1 e0_
 obtain ⟨Al, cl, rfl⟩ := Kd.R_slice HO.out
 obtain ⟨n, hn⟩ : ∃ n, n = l.length := ⟨_, rfl⟩
 have HN := ak_ hn
 rw [← hn]
 rw [← hn] at HO
 clear hn
 go_upto_region 20 with fail
 go_loopg [11, 65] n (fun gg _ s65 wr => ∃ (kk : Nat) (cur : Int) (has : List S58) (Ah : Option Addr) (ch : Nat), Aside0 (kk ≤ n ∧ n - kk ≤ gg) ∧ s65 = .int .i64 kk ∧ Aside0 (wr.heap[ga]? = some (.cells #[.int .i64 kind, .int .u32 iaid, .int .u32 t1, .int .u32 t2, .slice Ah has.length ch, .int .i64 cur] 51 (0, 0))) ∧ Aside0 (wr.heap[ge]? = some (.cells #[.int .i64 0] 30 (0, 0))) ∧ Aside0 (Below w.heap.size w wr) ∧ Aside0 (Kd.R k42 42 wr B (fun q => B ≤ q ∧ q < GB) (.slice Al n cl) l) ∧ Aside0 (Kd.R k58 58 wr w.heap.size (fun q => GB ≤ q) (.slice Ah has.length ch) has) ∧ Aside0 (GB ≤ wr.heap.size) ∧ Aside0 (getL k kind part (l.drop kk) has cur = some r0))
 case atStart => exact ⟨0, -1, [], none, 0, ⟨Nat.zero_le _, Nat.le_refl _⟩, rfl, BA, BE, HB, HO, ⟨Kd.R_nil _ _ _ _ _⟩, SZ, by rw [List.drop_zero]; exact HR0⟩
 case round =>
  clear BA BE HB HO SZ HR0
  obtain ⟨kk, cur, has, Ah, ch, HK, rfl, BA, BE, HB, HO, HH, SZ, HS⟩ := hrel
  have hC := (Kd.R_reads' HO.out).2.2
  have HMX := ak_ (show n ≤ 9223372036854775807 by have := Kd.C_max hC; have := HN.out; omega)
  by_cases hlt : kk < n
  ·obtain ⟨ad, hA, hx0, hx1⟩ := at_T42 hC (kk : Int) (by omega) (by have := HN.out; omega)
   subst hA
   simp only [Int.toNat_natCast] at hx0 hx1
   have hd : l.drop kk = (rd_T42 l (kk : Int)) :: l.drop (kk + 1) := by
    have hlt' : kk < l.length := by have := HN.out; omega
    rw [List.drop_eq_getElem_cons hlt']
    simp [rd_T42, List.getD_eq_getElem?_getD, List.getElem?_eq_getElem hlt']
   have h := HS.out
   rw [hd, getL] at h
   obtain ⟨x, hx⟩ : ∃ x, x = rd_T42 l (kk : Int) := ⟨_, rfl⟩
   rw [← hx] at h hx0 hx1
   clear hd hx HS hC
   obtain ⟨x0, x1⟩ := x
   dsimp only at h hx0 hx1
   have HLT := ak_ hlt
   have hltz : (kk : Int) < (n : Int) := by omega
   have BX1 := ak_ (blk_new wr (.cells #[.int .u16 x0, .string x1] 42))
   have BAa := ak_ (blk_alloc BA.out (.cells #[.int .u16 x0, .string x1] 42))
   have BEa := ak_ (blk_alloc BE.out (.cells #[.int .u16 x0, .string x1] 42))
   have HBa := ak_ (below_alloc HB.out (.cells #[.int .u16 x0, .string x1] 42))
   by_cases h13 : x0 = 13
   ·rw [if_pos h13] at h
    obtain ⟨⟨cc, ok⟩, hg, h⟩ := Option.bind_eq_some_iff.1 h
    dsimp only at h
    have HG := ak_ hg
    have hb13 : (x0 == 13) = true := by simpa using h13
    clear hg h13
    cases ok with
    | false =>
     rw [if_neg (by decide)] at h
     obtain rfl := Option.some.inj h
     clear h
     go_wp2_with (go_at_call 82; refine (take_bad k _ x0 x1 cc _ HG.out).mono ?_; rintro e w9 ⟨rfl, hb⟩; have BAf := ak_ (blk_below BAa.out hb); have BEf := ak_ (blk_below BEa.out hb); have HBf := ak_ (below_step HBa.out hb); clear hb)
     exact getFalls w w9 ga ge 130 0 kind iaid t1 t2 cur _ rfl rfl rfl GAE.out GA.out GE.out BAf.out BEf.out HBf.out
    | true =>
     rw [if_pos rfl] at h
     by_cases hcur : cur = -1
     ·rw [if_pos hcur] at h
      have H' := ak_ h
      clear h
      go_wp2_with (go_at_call 82; refine (take_ok k ga 5 cur x0 x1 cc _ ((blk_cell (blk_alloc BA.out _) 5).trans rfl) (blk_frozen (blk_alloc BA.out _) 5) HG.out).mono ?_; rintro e w9 ⟨rfl, w1, hb, hw⟩; rw [if_pos hcur] at hw; subst hw; have BA9 := ak_ (blk_put (blk_below (blk_alloc BA.out (.cells #[.int .u16 x0, .string x1] 42)) hb) 5 (.int .i64 cc) rfl); have BE9 := ak_ (blk_far (blk_below (blk_alloc BE.out (.cells #[.int .u16 x0, .string x1] 42)) hb) (p := ⟨ga, 5, none⟩) GEA.out (.int .i64 cc)); have HB9 := ak_ (show Below w.heap.size w (w1.setCell ⟨ga, 5, none⟩ (.int .i64 cc)) from below_set (below_step (below_alloc HB.out _) hb) GA.out); have HO9 := ak_ (Kd.R_far (Kd.R_below (Kd.R_alloc HO.out (.cells #[.int .u16 x0, .string x1] 42)) hb) (p := ⟨ga, 5, none⟩) (fun q hq => Nat.ne_of_gt (Nat.lt_of_lt_of_le GAB.out hq.1)) (.int .i64 cc)); have HH9 := ak_ (Kd.R_far (Kd.R_below (Kd.R_alloc HH.out (.cells #[.int .u16 x0, .string x1] 42)) hb) (p := ⟨ga, 5, none⟩) (fun q hq => Nat.ne_of_gt (Nat.lt_of_lt_of_le GAG.out hq)) (.int .i64 cc)); have SZ9 := ak_ (show GB ≤ (w1.setCell ⟨ga, 5, none⟩ (.int .i64 cc)).heap.size by rw [World.size_setCell]; exact Nat.le_trans (Nat.le_trans SZ.out (Nat.le_trans (Nat.le_succ _) (Nat.le_of_eq (World.size_alloc _ _).symm))) hb.size); clear hb)
      go_roundg (n - (kk + 1))
      case measure => have := HK.out; have := HLT.out; omega
      case rel => exact ⟨kk + 1, cc, has, Ah, ch, ⟨by have := HLT.out; omega, Nat.le_refl _⟩, by rw [Go.IntWalk.wrap64_in _ (by have := HLT.out; have := HMX.out; omega)]; rfl, BA9, BE9, HB9, HO9, HH9, SZ9, H'⟩
     ·rw [if_neg hcur] at h
      have H' := ak_ h
      clear h
      go_wp2_with (go_at_call 82; refine (take_ok k ga 5 cur x0 x1 cc _ ((blk_cell (blk_alloc BA.out _) 5).trans rfl) (blk_frozen (blk_alloc BA.out _) 5) HG.out).mono ?_; rintro e w9 ⟨rfl, w1, hb, hw⟩; rw [if_neg hcur] at hw; subst hw; have BA9 := ak_ (blk_below (blk_alloc BA.out (.cells #[.int .u16 x0, .string x1] 42)) hb); have BE9 := ak_ (blk_below (blk_alloc BE.out (.cells #[.int .u16 x0, .string x1] 42)) hb); have HB9 := ak_ (below_step (below_alloc HB.out _) hb); have HO9 := ak_ (Kd.R_below (Kd.R_alloc HO.out (.cells #[.int .u16 x0, .string x1] 42)) hb); have HH9 := ak_ (Kd.R_below (Kd.R_alloc HH.out (.cells #[.int .u16 x0, .string x1] 42)) hb); have SZ9 := ak_ (Nat.le_trans (Nat.le_trans SZ.out (Nat.le_trans (Nat.le_succ _) (Nat.le_of_eq (World.size_alloc _ _).symm))) hb.size); clear hb)
      go_roundg (n - (kk + 1))
      case measure => have := HK.out; have := HLT.out; omega
      case rel => exact ⟨kk + 1, cur, has, Ah, ch, ⟨by have := HLT.out; omega, Nat.le_refl _⟩, by rw [Go.IntWalk.wrap64_in _ (by have := HLT.out; have := HMX.out; omega)]; rfl, BA9, BE9, HB9, HO9, HH9, SZ9, H'⟩
   ·rw [if_neg h13] at h
    have hb13 : (x0 == 13) = false := by simpa using h13
    clear h13
    by_cases hpt : x0 = part
    ·rw [if_pos hpt] at h
     have hbp : (x0 == part) = true := by simpa using hpt
     clear hpt
     have d4_ := (blk_cell BAa.out 4).trans rfl
     by_cases h8 : 8 ≤ has.length
     ·rw [if_pos h8] at h
      obtain rfl := Option.some.inj h
      clear h
      have h8z : decide ((8 : Int) ≤ (has.length : Int)) = true := decide_eq_true (by omega)
      go_wp2_with (go_at_call 81; refine (must_bad 6 (by decide) _).mono ?_; rintro e w9 ⟨rfl, hb⟩; have BAf := ak_ (blk_below BAa.out hb); have BEf := ak_ (blk_below BEa.out hb); have HBf := ak_ (below_step HBa.out hb); clear hb)
      exact getFalls w w9 ga ge 6 0 kind iaid t1 t2 cur _ rfl rfl rfl GAE.out GA.out GE.out BAf.out BEf.out HBf.out
     ·rw [if_neg h8] at h
      obtain ⟨ri, hri, h⟩ := Option.bind_eq_some_iff.1 h
      have h8z : decide ((8 : Int) ≤ (has.length : Int)) = false := decide_eq_false (by omega)
      have HRI := ak_ hri
      have H8 := ak_ (Nat.lt_of_not_le h8)
      clear hri h8
      go_upto_region 28 with fail
      have SZa := ak_ (show GB ≤ (wr.alloc (.cells #[.int .u16 x0, .string x1] 42)).heap.size from Nat.le_trans SZ.out (Nat.le_trans (Nat.le_succ _) (Nat.le_of_eq (World.size_alloc _ _).symm)))
      have HOa := ak_ (Kd.R_alloc HO.out (.cells #[.int .u16 x0, .string x1] 42))
      have HHa := ak_ (Kd.R_alloc HH.out (.cells #[.int .u16 x0, .string x1] 42))
      cases ri with
      | error x =>
       dsimp only at h
       obtain rfl := Option.some.inj h
       clear h
       refine getFall _ rfl _ _ _ _ (by kernel_rfl) k ga ge _ kind iaid t1 t2 cur x0 Ah ch has x1 x rfl rfl rfl BAa.out BX1.out HRI.out ?_
       intro a2 W hd2 h22 h33 hb
       exact getFalls w W ga ge x 0 kind iaid t1 t2 cur _ (hd2.trans rfl) h22 h33 GAE.out GA.out GE.out (blk_below BAa.out hb) (blk_below BEa.out hb) (below_step HBa.out hb)
      | ok y =>
       dsimp only at h
       have H' := ak_ h
       clear h
       refine getInner _ rfl _ _ _ _ (by kernel_rfl) k ga _ kind iaid t1 t2 cur x0 Ah ch has x1 w.heap.size GB y rfl rfl BAa.out BX1.out HRI.out HHa.out GAG.out SZa.out (HBa.out.size) H8.out ?_
       intro u v1 W hR hgr
       obtain ⟨A1, c1, rfl⟩ := Kd.R_slice hR
       have hown : ∀ q, q < GB → some q ≠ Value.ownBlock (.slice Ah has.length ch) := fun q hq e => by have := HHa.out.1 q e.symm; omega
       have BAw := ak_ ((hgr.block ga (blk_lt BAa.out) (hown ga GAG.out)).trans BAa.out)
       have BEw := ak_ ((hgr.block ge (blk_lt BEa.out) (hown ge GEG.out)).trans BEa.out)
       have HBw := ak_ (show Below w.heap.size w W from HBa.out.grown hgr HBa.out.size (fun q e => by have := HHa.out.1 q e; have := GWG.out; omega))
       have HOw := ak_ (Kd.R_grown HOa.out hgr (fun q hq => hown q hq.2))
       have SZw := ak_ (Nat.le_trans SZa.out hgr.size)
       have HR1 := ak_ hR
       clear hR hgr hown
       have BA9 := ak_ (blk_put BAw.out 4 (.slice A1 (has ++ [y]).length c1) rfl)
       have BE9 := ak_ (blk_far BEw.out (p := ⟨ga, 4, none⟩) GEA.out (.slice A1 (has ++ [y]).length c1))
       have HB9 := ak_ (show Below w.heap.size w (W.setCell ⟨ga, 4, none⟩ (.slice A1 (has ++ [y]).length c1)) from below_set HBw.out GA.out)
       have HO9 := ak_ (Kd.R_far HOw.out (p := ⟨ga, 4, none⟩) (fun q hq => Nat.ne_of_gt (Nat.lt_of_lt_of_le GAB.out hq.1)) (.slice A1 (has ++ [y]).length c1))
       have HH9 := ak_ (Kd.R_far HR1.out (p := ⟨ga, 4, none⟩) (fun q hq => Nat.ne_of_gt (Nat.lt_of_lt_of_le GAG.out hq)) (.slice A1 (has ++ [y]).length c1))
       have SZ9 := ak_ (show GB ≤ (W.setCell ⟨ga, 4, none⟩ (.slice A1 (has ++ [y]).length c1)).heap.size by rw [World.size_setCell]; exact SZw.out)
       simp only [XReg.fills, List.foldl_cons, List.foldl_nil, Act.put, List.setIfInBounds_toArray, List.set_cons_zero, List.set_cons_succ]
       clear BAw BEw HBw HOw SZw HR1 HOa HHa SZa BAa BEa HBa BX1 BA BE HB HO HH SZ d4_ hx0 hx1
       generalize W.setCell ⟨ga, 4, none⟩ (.slice A1 (has ++ [y]).length c1) = W9 at BA9 BE9 HB9 HO9 HH9 SZ9 ⊢
       go_wp2
       go_roundg (n - (kk + 1))
       case measure => have := HK.out; have := HLT.out; omega
       case rel => exact ⟨kk + 1, cur, has ++ [y], A1, c1, ⟨by have := HLT.out; omega, Nat.le_refl _⟩, by rw [Go.IntWalk.wrap64_in _ (by have := HLT.out; have := HMX.out; omega)]; rfl, BA9, BE9, HB9, HO9, HH9, SZ9, H'⟩
    ·rw [if_neg hpt] at h
     have hbp : (x0 == part) = false := by simpa using hpt
     have H' := ak_ h
     clear h hpt
     go_wp2
     go_roundg (n - (kk + 1))
     case measure => have := HK.out; have := HLT.out; omega
     case rel => exact ⟨kk + 1, cur, has, Ah, ch, ⟨by have := HLT.out; omega, Nat.le_refl _⟩, by rw [Go.IntWalk.wrap64_in _ (by have := HLT.out; have := HMX.out; omega)]; rfl, ⟨blk_alloc BA.out _⟩, ⟨blk_alloc BE.out _⟩, ⟨below_alloc HB.out _⟩, ⟨Kd.R_alloc HO.out _⟩, ⟨Kd.R_alloc HH.out _⟩, ⟨Nat.le_trans SZ.out (Nat.le_trans (Nat.le_succ _) (Nat.le_of_eq (World.size_alloc _ _).symm))⟩, H'⟩
  ·obtain rfl : kk = n := by have := HK.out; omega
   have h := HS.out
   rw [HN.out, List.drop_length, getL] at h
   obtain rfl := Option.some.inj h
   clear h HS hC
   have hltz : ¬ ((kk : Int) < (kk : Int)) := by omega
   go_wp2_with (first
    | ((with_reducible refine gate_dst (N := 95) rfl ?_); refine XBox.loadL_ 95 rfl rfl 51 rfl ga rfl _ BA.out hu37 rfl hi37 ?_; simp only [Act.put, List.setIfInBounds_toArray, List.set_cons_zero, List.set_cons_succ])
    | ((with_reducible refine gate_store (p := 2) rfl ?_); refine XBox.storeL_ rfl rfl 51 rfl ga rfl #[.int .i64 kind, .int .u32 iaid, .int .u32 t1, .int .u32 t2, .slice Ah has.length ch, .int .i64 cur] #[.int .i64 kind, .int .u32 iaid, .int .u32 t1, .int .u32 t2, .slice Ah has.length ch, .int .i64 cur] rfl BA.out hi37 (Eq.refl 6) (by simp [Value.oneCell']) ?_; intro wv hw1 hw2 hw3; have BV := ak_ hw1; have HV := ak_ (HB.out.trans (hw2 _ GA.out)); have HEV := ak_ ((hw3 ge GEA.out).trans BE.out); have HHV := ak_ (Kd.R_step HH.out (fun q hq _ => hw3 q (Nat.ne_of_gt (Nat.lt_of_lt_of_le GAG.out hq)))); have v0_ := (blk_cell HEV.out 0).trans rfl; have v1_ := blk_frozen HEV.out 0; clear hw1 hw2 hw3))
   exact getIdle w (wv.setCell ⟨ge, 0, none⟩ (.int .i64 0)) ga ge 0 kind iaid t1 t2 cur _ has rfl rfl rfl (blk_far BV.out (p := ⟨ge, 0, none⟩) GAE.out _) (blk_put HEV.out 0 _ rfl) (Kd.R_far HHV.out (p := ⟨ge, 0, none⟩) (fun q hq => Nat.ne_of_gt (Nat.lt_of_lt_of_le GEG.out hq)) _) (below_set HV.out GE.out)
set_option maxHeartbeats 8000000 in
set_option maxRecDepth 100000 in
theorem getNone (code : Int) (data : ByteArray) (w : World) (hix : kindIx code = -1) :
 Calls Try.prog 53 #[.agg #[.int .u16 code, .string data]] w (getR w (0, 0, 0, 0, [], 0, 130)) := by
 have HIX := ak_ hix
 have hu37 := Try.underlying51
 have hu40 := Try.underlying42
 have hi37 : (Try.prog.info? 51).map (·.size) = some 6 := by kernel_rfl
 have hmf : ∀ (fn : Fn) (first cap : Array Value) (w : World), (Instr.makeFunc fn first cap).run Try.prog w = .ok (.func fn first cap) w := fun _ _ _ _ => rfl
 clear hix
 go_enter_defers Try.func53, Try.ntmps53
 go_upto_region 1 with fail
 have BO0 := ak_ (blk_alloc (blk_alloc (blk_new w (.cells #[.int .u16 code, .string data] 42)) (.cells #[.int .i64 0, .int .u32 0, .int .u32 0, .int .u32 0, .slice none 0 0, .int .i64 0] 51)) (.cells #[.int .i64 0] 30))
 have ba := blk_alloc (blk_new (w.alloc (.cells #[.int .u16 code, .string data] 42)) (.cells #[.int .i64 0, .int .u32 0, .int .u32 0, .int .u32 0, .slice none 0 0, .int .i64 0] 51)) (.cells #[.int .i64 0] 30)
 have be := blk_new ((w.alloc (.cells #[.int .u16 code, .string data] 42)).alloc (.cells #[.int .i64 0, .int .u32 0, .int .u32 0, .int .u32 0, .slice none 0 0, .int .i64 0] 51)) (.cells #[.int .i64 0] 30)
 have HB0 := ak_ (below_alloc (below_alloc (below_alloc (Below.refl _ w) (.cells #[.int .u16 code, .string data] 42)) (.cells #[.int .i64 0, .int .u32 0, .int .u32 0, .int .u32 0, .slice none 0 0, .int .i64 0] 51)) (.cells #[.int .i64 0] 30))
 rw [World.size_alloc] at ba
 rw [World.size_alloc, World.size_alloc] at be
 have BA0 := ak_ ba
 have BE0 := ak_ be
 clear ba be
 generalize ((w.alloc (.cells #[.int .u16 code, .string data] 42)).alloc (.cells #[.int .i64 0, .int .u32 0, .int .u32 0, .int .u32 0, .slice none 0 0, .int .i64 0] 51)).alloc (.cells #[.int .i64 0] 30) = w3 at BO0 BA0 BE0 HB0 ⊢
 obtain ⟨go, hgo⟩ : ∃ go, go = w.heap.size := ⟨_, rfl⟩
 obtain ⟨ga, hga⟩ : ∃ ga, ga = w.heap.size + 1 := ⟨_, rfl⟩
 obtain ⟨ge, hge⟩ : ∃ ge, ge = w.heap.size + 1 + 1 := ⟨_, rfl⟩
 have GA := ak_ (show w.heap.size ≤ ga by omega)
 have GE := ak_ (show w.heap.size ≤ ge by omega)
 have GAE := ak_ (show ga ≠ ge by omega)
 have GEA := ak_ (show ge ≠ ga by omega)
 have GOA := ak_ (show go ≠ ga by omega)
 have GOE := ak_ (show go ≠ ge by omega)
 rw [← hgo] at BO0
 rw [← hga] at BA0
 rw [← hge] at BE0
 rw [← hge, ← hga, ← hgo]
 clear hgo hga hge
 have BS0 := ak_ (blk_new w3 (.cells #[.int .i64 2, .int .i64 3, .int .i64 4] 3))
 have BO1 := ak_ (blk_alloc BO0.out (.cells #[.int .i64 2, .int .i64 3, .int .i64 4] 3))
 have BA1 := ak_ (blk_alloc BA0.out (.cells #[.int .i64 2, .int .i64 3, .int .i64 4] 3))
 have BE1 := ak_ (blk_alloc BE0.out (.cells #[.int .i64 2, .int .i64 3, .int .i64 4] 3))
 have HB1 := ak_ (below_alloc HB0.out (.cells #[.int .i64 2, .int .i64 3, .int .i64 4] 3))
 go_upto_region 3 with (go_at_call 77; refine (kindIx_ code w3.heap.size go _ BS0.out ((blk_cell BO1.out 0).trans rfl)).mono ?_; rintro e w4 ⟨rfl, hb⟩; have BS := ak_ (blk_below BS0.out hb); have BO := ak_ (blk_below BO1.out hb); have BA := ak_ (blk_below BA1.out hb); have BE := ak_ (blk_below BE1.out hb); have HB := ak_ (below_step HB1.out hb); clear hb)
 generalize w3.heap.size = gs at BS ⊢
 rw [HIX.out]
 clear BS0 BO1 BA1 BE1 HB1 BO0 BA0 BE0 HB0
 have e0_ := (blk_cell BE.out 0).trans rfl
 have e1_ := blk_frozen BE.out 0
 go_wp2_with ((with_reducible refine gate_store (p := 2) rfl ?_); refine XBox.storeL_ rfl rfl 51 rfl ga rfl #[.int .i64 0, .int .u32 0, .int .u32 0, .int .u32 0, .slice none 0 0, .int .i64 0] #[.int .i64 0, .int .u32 0, .int .u32 0, .int .u32 0, .slice none 0 0, .int .i64 0] rfl BA.out hi37 (Eq.refl 6) (by simp [Value.oneCell']) ?_; intro wv hw1 hw2 hw3; have BV := ak_ hw1; have HV := ak_ (HB.out.trans (hw2 _ GA.out)); have HEV := ak_ ((hw3 ge GEA.out).trans BE.out); have v0_ := (blk_cell HEV.out 0).trans rfl; have v1_ := blk_frozen HEV.out 0; clear hw1 hw2 hw3)
 refine ⟨_, getEnds (wv.setCell ⟨ge, 0, none⟩ (.int .i64 130)) ga ge 130 #[.int .i64 0, .int .u32 0, .int .u32 0, .int .u32 0, .slice none 0 0, .int .i64 0] rfl (blk_far BV.out (p := ⟨ge, 0, none⟩) GAE.out _) (blk_put HEV.out 0 _ rfl) rfl rfl, _, rfl, Kd.R_nil _ _ _ _ _, below_set HV.out GE.out⟩
theorem getK_calls (k : Nat) (code : Int) (data : ByteArray) (r1 r2 r3 r4 : Int) (r5 : List S58) (r6 r7 : Int) (w : World) (h : getK k code data = some (r1, r2, r3, r4, r5, r6, r7)) :
 Calls Try.prog 53 #[.agg #[.int .u16 code, .string data]] w fun e w' => ∃ v4_ : Value, e = .returned (.tuple #[.agg #[.int .i64 r1, .int .u32 r2, .int .u32 r3, .int .u32 r4, v4_, .int .i64 r6], .int .i64 r7]) ∧ Kd.R k58 58 w' w.heap.size (fun _ => True) v4_ r5 ∧ Below w.heap.size w w' := by
 unfold getK at h
 have fin : ∀ (R : Int × Int × Int × Int × List S58 × Int × Int), R = (r1, r2, r3, r4, r5, r6, r7) → Calls Try.prog 53 #[.agg #[.int .u16 code, .string data]] w (getR w R) → Calls Try.prog 53 #[.agg #[.int .u16 code, .string data]] w (getR w (r1, r2, r3, r4, r5, r6, r7)) := fun R e h => e ▸ h
 by_cases h3 : code = 3
 ·rw [if_pos h3] at h
  obtain ⟨r, hr, h⟩ := Option.bind_eq_some_iff.1 h
  exact fin _ (Option.some.inj h) (getBody k 0 2 12 5 code data r w (by unfold kindIx; rw [if_pos h3]; rfl) (by omega) rfl (.inr (.inr ⟨rfl, rfl, rfl⟩)) hr)
 rw [if_neg h3] at h
 by_cases h4 : code = 4
 ·rw [if_pos h4] at h
  obtain ⟨r, hr, h⟩ := Option.bind_eq_some_iff.1 h
  exact fin _ (Option.some.inj h) (getBody k 1 3 4 5 code data r w (by unfold kindIx; rw [if_neg h3, if_pos h4]; rfl) (by omega) rfl (.inl ⟨rfl, rfl, rfl⟩) hr)
 rw [if_neg h4] at h
 by_cases h25 : code = 25
 ·rw [if_pos h25] at h
  obtain ⟨r, hr, h⟩ := Option.bind_eq_some_iff.1 h
  exact fin _ (Option.some.inj h) (getBody k 2 4 12 26 code data r w (by unfold kindIx; rw [if_neg h3, if_neg h4, if_pos h25]; rfl) (by omega) rfl (.inr (.inl ⟨rfl, rfl, rfl⟩)) hr)
 rw [if_neg h25] at h
 exact fin _ (Option.some.inj h) (getNone code data w (by unfold kindIx; rw [if_neg h3, if_neg h4, if_neg h25]))
def opt6_GetIA.f (a0 : Int) (a1 : ByteArray) : Option (Int × Int × Int × Int × (List S58) × Int × Int) := getK 1000 a0 a1
theorem opt6_GetIA.calls (a0_0 : Int) (a0_1 : ByteArray) (r1 r2 r3 r4 : Int) (r5 : List S58) (r6 r7 : Int) (w : World) (h : opt6_GetIA.f a0_0 a0_1 = some (r1, r2, r3, r4, r5, r6, r7)) :
 Calls Try.prog 53 #[.agg #[.int .u16 a0_0, .string a0_1]] w fun e w' => ∃ v4_ : Value, e = .returned (.tuple #[.agg #[.int .i64 r1, .int .u32 r2, .int .u32 r3, .int .u32 r4, v4_, .int .i64 r6], .int .i64 r7]) ∧ Kd.R k58 58 w' w.heap.size (fun _ => True) v4_ r5 ∧ Below w.heap.size w w' :=
 getK_calls 1000 a0_0 a0_1 r1 r2 r3 r4 r5 r6 r7 w h





def tenancyref01_bit.f (a0_0 : Int) (a0_1 : Int) (a1 : Int) : Option (Int) := if a1 < 64 then (if 0 ≤ (IntKind.u64.wrap (wrap64 (63 - a1))) then (some (Go.bits .and .u64 (shr .u64 a0_0 (IntKind.u64.wrap (wrap64 (63 - a1)))) 1)) else (none)) else (if 0 ≤ (IntKind.u64.wrap (wrap64 (127 - a1))) then (some (Go.bits .and .u64 (shr .u64 a0_1 (IntKind.u64.wrap (wrap64 (127 - a1)))) 1)) else (none))
set_option maxHeartbeats 8000000 in
set_option maxRecDepth 100000 in
theorem tenancyref01_bit.calls (a0_0 : Int) (a0_1 : Int) (a1 : Int) (r : Int) (w : World) (h : tenancyref01_bit.f a0_0 a0_1 a1 = some r) :
 Calls Try.prog 107 #[.agg #[.int .u64 a0_0, .int .u64 a0_1], .int .i64 a1] w fun e w' => e = .returned (.int .u64 r) ∧ Below w.heap.size w w' := by
 have hu54 := Try.underlying54
 have HB := ak_ (Below.refl w.heap.size w)
 have H : (if a1 < 64 then (if 0 ≤ (IntKind.u64.wrap (wrap64 (63 - a1))) then (some (Go.bits .and .u64 (shr .u64 a0_0 (IntKind.u64.wrap (wrap64 (63 - a1)))) 1)) else (none)) else (if 0 ≤ (IntKind.u64.wrap (wrap64 (127 - a1))) then (some (Go.bits .and .u64 (shr .u64 a0_1 (IntKind.u64.wrap (wrap64 (127 - a1)))) 1)) else (none))) = some r := h
 clear h
 by_cases c3 : a1 < 64
 ·rw [if_pos c3] at H
  have c3b0 : decide (a1 < 64) = true := decide_eq_true c3
  clear c3
  obtain ⟨ji4, hji4⟩ : ∃ j_ : Int, (IntKind.u64.wrap (wrap64 (63 - a1))) = j_ := ⟨_, rfl⟩
  replace H : (if 0 ≤ (ji4) then (some (Go.bits .and .u64 (shr .u64 a0_0 (ji4)) 1)) else (none)) = some r := by first | (rw [hji4] at H; exact H)
  by_cases c5 : 0 ≤ (ji4)
  ·rw [if_pos c5] at H
   have c5b0 := eq_true c5
   have c5b1 : decide (0 ≤ (ji4)) = true := decide_eq_true c5
   clear c5
   obtain ⟨ji6, hji6⟩ : ∃ j_ : Int, (shr .u64 a0_0 (ji4)) = j_ := ⟨_, rfl⟩
   replace H : (some (Go.bits .and .u64 (ji6) 1)) = some r := by first | (rw [hji6] at H; exact H)
   have hji6_ : (a0_0 / 2 ^ min (ji4).toNat 64) = ji6 := hji6
   have hji6z : (ji4) ≤ 64 → (a0_0 / 2 ^ (ji4).toNat) = ji6 := shr_small hji6
   obtain rfl := Option.some.inj H
   go_enter Try.func107, Try.ntmps107
   go_wp2_with (first | ((with_reducible refine gate_dst (N := 2) rfl ?_); refine box_event ?hg (N := 2) ?hd (cs := #[.int .u64 a0_0, .int .u64 a0_1]) (t := 54) ?hr ?_; (case hd => rfl); (case hg => rfl); (case hr => go_simp; done); intro gb290 hg w7 hbox hb; have BK290 := ak_ hbox; have GW290 := gz_ HB hg; have GE290 := gz_ HB hg; replace HB := bs_ HB hb; clear hb hbox hg; have hz8 := bz2_ BK290))
   go_ret
   exact ⟨by rfl, by exact HB.out⟩
  rw [if_neg c5] at H
  exact absurd H (by simp)
 rw [if_neg c3] at H
 have c3b0 : decide (a1 < 64) = false := decide_eq_false c3
 clear c3
 obtain ⟨ji9, hji9⟩ : ∃ j_ : Int, (IntKind.u64.wrap (wrap64 (127 - a1))) = j_ := ⟨_, rfl⟩
 replace H : (if 0 ≤ (ji9) then (some (Go.bits .and .u64 (shr .u64 a0_1 (ji9)) 1)) else (none)) = some r := by first | (rw [hji9] at H; exact H)
 by_cases c10 : 0 ≤ (ji9)
 ·rw [if_pos c10] at H
  have c10b0 := eq_true c10
  have c10b1 : decide (0 ≤ (ji9)) = true := decide_eq_true c10
  clear c10
  obtain ⟨ji11, hji11⟩ : ∃ j_ : Int, (shr .u64 a0_1 (ji9)) = j_ := ⟨_, rfl⟩
  replace H : (some (Go.bits .and .u64 (ji11) 1)) = some r := by first | (rw [hji11] at H; exact H)
  have hji11_ : (a0_1 / 2 ^ min (ji9).toNat 64) = ji11 := hji11
  have hji11z : (ji9) ≤ 64 → (a0_1 / 2 ^ (ji9).toNat) = ji11 := shr_small hji11
  obtain rfl := Option.some.inj H
  go_enter Try.func107, Try.ntmps107
  go_wp2_with (first | ((with_reducible refine gate_dst (N := 2) rfl ?_); refine box_event ?hg (N := 2) ?hd (cs := #[.int .u64 a0_0, .int .u64 a0_1]) (t := 54) ?hr ?_; (case hd => rfl); (case hg => rfl); (case hr => go_simp; done); intro gb290 hg w12 hbox hb; have BK290 := ak_ hbox; have GW290 := gz_ HB hg; have GE290 := gz_ HB hg; replace HB := bs_ HB hb; clear hb hbox hg; have hz13 := bz2_ BK290))
  go_ret
  exact ⟨by rfl, by exact HB.out⟩
 rw [if_neg c10] at H
 exact absurd H (by simp)

def tenancyref01_with.f (a0_0 : Int) (a0_1 : Int) (a1 : Int) : Option (Int × Int) := if a1 < 64 then (if 0 ≤ (IntKind.u64.wrap (wrap64 (63 - a1))) then (some (Go.bits .or .u64 a0_0 (shl .u64 1 (IntKind.u64.wrap (wrap64 (63 - a1)))), a0_1)) else (none)) else (if 0 ≤ (IntKind.u64.wrap (wrap64 (127 - a1))) then (some (a0_0, Go.bits .or .u64 a0_1 (shl .u64 1 (IntKind.u64.wrap (wrap64 (127 - a1)))))) else (none))
set_option maxHeartbeats 8000000 in
set_option maxRecDepth 100000 in
theorem tenancyref01_with.calls (a0_0 : Int) (a0_1 : Int) (a1 : Int) (r1 : Int) (r2 : Int) (w : World) (h : tenancyref01_with.f a0_0 a0_1 a1 = some (r1, r2)) :
 Calls Try.prog 108 #[.agg #[.int .u64 a0_0, .int .u64 a0_1], .int .i64 a1] w fun e w' => e = .returned (.agg #[.int .u64 r1, .int .u64 r2]) ∧ Below w.heap.size w w' := by
 have hu54 := Try.underlying54
 have HB := ak_ (Below.refl w.heap.size w)
 have H : (if a1 < 64 then (if 0 ≤ (IntKind.u64.wrap (wrap64 (63 - a1))) then (some (Go.bits .or .u64 a0_0 (shl .u64 1 (IntKind.u64.wrap (wrap64 (63 - a1)))), a0_1)) else (none)) else (if 0 ≤ (IntKind.u64.wrap (wrap64 (127 - a1))) then (some (a0_0, Go.bits .or .u64 a0_1 (shl .u64 1 (IntKind.u64.wrap (wrap64 (127 - a1)))))) else (none))) = some (r1, r2) := h
 clear h
 by_cases c3 : a1 < 64
 ·rw [if_pos c3] at H
  have c3b0 : decide (a1 < 64) = true := decide_eq_true c3
  clear c3
  obtain ⟨ji4, hji4⟩ : ∃ j_ : Int, (IntKind.u64.wrap (wrap64 (63 - a1))) = j_ := ⟨_, rfl⟩
  replace H : (if 0 ≤ (ji4) then (some (Go.bits .or .u64 a0_0 (shl .u64 1 (ji4)), a0_1)) else (none)) = some (r1, r2) := by first | (rw [hji4] at H; exact H)
  by_cases c5 : 0 ≤ (ji4)
  ·rw [if_pos c5] at H
   have c5b0 := eq_true c5
   have c5b1 : decide (0 ≤ (ji4)) = true := decide_eq_true c5
   clear c5
   obtain ⟨ji6, hji6⟩ : ∃ j_ : Int, (shl .u64 1 (ji4)) = j_ := ⟨_, rfl⟩
   replace H : (some (Go.bits .or .u64 a0_0 (ji6), a0_1)) = some (r1, r2) := by first | (rw [hji6] at H; exact H)
   have hji6_ : (IntKind.u64.wrap (1 * 2 ^ min (ji4).toNat 64)) = ji6 := hji6
   have hji6z : (ji4) ≤ 64 → (IntKind.u64.wrap (1 * 2 ^ (ji4).toNat)) = ji6 := shl_small hji6
   have hji6u : (IntKind.u64.wrap (2 ^ min (ji4).toNat 64)) = ji6 := by have h_ := hji6_; rw [Int.one_mul] at h_; exact h_
   have hji6v : (ji4) ≤ 64 → (IntKind.u64.wrap (2 ^ (ji4).toNat)) = ji6 := fun hle_ => by have h_ := hji6z hle_; rw [Int.one_mul] at h_; exact h_
   simp only [Option.some.injEq, Prod.mk.injEq] at H
   obtain ⟨rfl, rfl⟩ := H
   go_enter Try.func108, Try.ntmps108
   go_wp2_with (first | ((with_reducible refine gate_dst (N := 2) rfl ?_); refine box_event ?hg (N := 2) ?hd (cs := #[.int .u64 a0_0, .int .u64 a0_1]) (t := 54) ?hr ?_; (case hd => rfl); (case hg => rfl); (case hr => go_simp; done); intro gb291 hg w7 hbox hb; have BK291 := ak_ hbox; have GW291 := gz_ HB hg; have GE291 := gz_ HB hg; replace HB := bs_ HB hb; clear hb hbox hg) | ((with_reducible refine gate_dst (N := 4) rfl ?_); refine box_event ?hg (N := 4) ?hd (cs := #[.int .u64 0, .int .u64 0]) (t := 54) ?hr ?_; (case hd => rfl); (case hg => rfl); (case hr => go_simp; done); intro gb292 hg w8 hbox hb; have BK292 := ak_ hbox; have GW292 := gz_ HB hg; have GE292 := gz_ HB hg; replace HB := bs_ HB hb; have NB291_292 := gl_ BK291 hg; have NB292_291 := gr_ BK291 hg; replace BK291 := bb_ BK291 hb; clear hb hbox hg; have hnb9 := NB291_292.out; have hnc9 := NB292_291.out; have hz10 := bz2_ BK291; have hz11 := bz2_ BK292))
   refine bodyPost_ret (results_cell_row rfl _ _ gb292 54 #[.int .u64 (Go.bits .or .u64 a0_0 (ji6)), .int .u64 a0_1] (0, 0) _ rfl (by refine blk_put (cs := #[.int .u64 (Go.bits .or .u64 a0_0 (ji6)), .int .u64 0]) ?_ 1 _ rfl; refine blk_put (cs := #[.int .u64 0, .int .u64 0]) ?_ 0 _ rfl; refine blk_far ?_ NB292_291.out _; exact BK292.out) Try.underlying54 rfl (by kernel_rfl)) rfl ?_
   exact ⟨by rfl, by repeat (first | (with_reducible first | exact HB.out | refine below_set ?_ GE291.out | refine below_set ?_ GE292.out))⟩
  rw [if_neg c5] at H
  exact absurd H (by simp)
 rw [if_neg c3] at H
 have c3b0 : decide (a1 < 64) = false := decide_eq_false c3
 clear c3
 obtain ⟨ji12, hji12⟩ : ∃ j_ : Int, (IntKind.u64.wrap (wrap64 (127 - a1))) = j_ := ⟨_, rfl⟩
 replace H : (if 0 ≤ (ji12) then (some (a0_0, Go.bits .or .u64 a0_1 (shl .u64 1 (ji12)))) else (none)) = some (r1, r2) := by first | (rw [hji12] at H; exact H)
 by_cases c13 : 0 ≤ (ji12)
 ·rw [if_pos c13] at H
  have c13b0 := eq_true c13
  have c13b1 : decide (0 ≤ (ji12)) = true := decide_eq_true c13
  clear c13
  obtain ⟨ji14, hji14⟩ : ∃ j_ : Int, (shl .u64 1 (ji12)) = j_ := ⟨_, rfl⟩
  replace H : (some (a0_0, Go.bits .or .u64 a0_1 (ji14))) = some (r1, r2) := by first | (rw [hji14] at H; exact H)
  have hji14_ : (IntKind.u64.wrap (1 * 2 ^ min (ji12).toNat 64)) = ji14 := hji14
  have hji14z : (ji12) ≤ 64 → (IntKind.u64.wrap (1 * 2 ^ (ji12).toNat)) = ji14 := shl_small hji14
  have hji14u : (IntKind.u64.wrap (2 ^ min (ji12).toNat 64)) = ji14 := by have h_ := hji14_; rw [Int.one_mul] at h_; exact h_
  have hji14v : (ji12) ≤ 64 → (IntKind.u64.wrap (2 ^ (ji12).toNat)) = ji14 := fun hle_ => by have h_ := hji14z hle_; rw [Int.one_mul] at h_; exact h_
  simp only [Option.some.injEq, Prod.mk.injEq] at H
  obtain ⟨rfl, rfl⟩ := H
  go_enter Try.func108, Try.ntmps108
  go_wp2_with (first | ((with_reducible refine gate_dst (N := 2) rfl ?_); refine box_event ?hg (N := 2) ?hd (cs := #[.int .u64 a0_0, .int .u64 a0_1]) (t := 54) ?hr ?_; (case hd => rfl); (case hg => rfl); (case hr => go_simp; done); intro gb291 hg w15 hbox hb; have BK291 := ak_ hbox; have GW291 := gz_ HB hg; have GE291 := gz_ HB hg; replace HB := bs_ HB hb; clear hb hbox hg) | ((with_reducible refine gate_dst (N := 4) rfl ?_); refine box_event ?hg (N := 4) ?hd (cs := #[.int .u64 0, .int .u64 0]) (t := 54) ?hr ?_; (case hd => rfl); (case hg => rfl); (case hr => go_simp; done); intro gb292 hg w16 hbox hb; have BK292 := ak_ hbox; have GW292 := gz_ HB hg; have GE292 := gz_ HB hg; replace HB := bs_ HB hb; have NB291_292 := gl_ BK291 hg; have NB292_291 := gr_ BK291 hg; replace BK291 := bb_ BK291 hb; clear hb hbox hg; have hnb17 := NB291_292.out; have hnc17 := NB292_291.out; have hz18 := bz2_ BK291; have hz19 := bz2_ BK292))
  refine bodyPost_ret (results_cell_row rfl _ _ gb292 54 #[.int .u64 a0_0, .int .u64 (Go.bits .or .u64 a0_1 (ji14))] (0, 0) _ rfl (by refine blk_put (cs := #[.int .u64 a0_0, .int .u64 0]) ?_ 1 _ rfl; refine blk_put (cs := #[.int .u64 0, .int .u64 0]) ?_ 0 _ rfl; refine blk_far ?_ NB292_291.out _; exact BK292.out) Try.underlying54 rfl (by kernel_rfl)) rfl ?_
  exact ⟨by rfl, by repeat (first | (with_reducible first | exact HB.out | refine below_set ?_ GE291.out | refine below_set ?_ GE292.out))⟩
 rw [if_neg c13] at H
 exact absurd H (by simp)

mutual
def tenancyref01_Clip.j0 : Nat → Int → Bool → Int → Int → Option (Int × Int × Int × Bool)
  | 0, _, _, _, _ => none
  | k + 1, x1, x13, x294000, x294001 => if x13 = true then (some (0, 0, 0, false)) else (tenancyref01_Clip.l0 k x1 0 x294000 x294001 0 0)
def tenancyref01_Clip.l0 : Nat → Int → Int → Int → Int → Int → Int → Option (Int × Int × Int × Bool)
  | 0, _, _, _, _, _, _ => none
  | k + 1, x1, x7, x294000, x294001, x296000, x296001 => if x7 < x1 then ((tenancyref01_bit.f x294000 x294001 x7).bind fun t296 => (if t296 = 1 then ((tenancyref01_with.f x296000 x296001 x7).bind fun bt297 => (tenancyref01_Clip.l0 k x1 (wrap64 (x7 + 1)) x294000 x294001 bt297.1 bt297.2)) else (tenancyref01_Clip.l0 k x1 (wrap64 (x7 + 1)) x294000 x294001 x296000 x296001))) else (some (x296000, x296001, x1, true))
end
def tenancyref01_Clip.f (k : Nat) (a0_0 : Int) (a0_1 : Int) (a1 : Int) : Option (Int × Int × Int × Bool) := if a1 < 0 then (tenancyref01_Clip.j0 k a1 true a0_0 a0_1) else (tenancyref01_Clip.j0 k a1 (decide (a1 > 128)) a0_0 a0_1)
set_option maxHeartbeats 8000000 in
set_option maxRecDepth 100000 in
theorem tenancyref01_Clip.calls (k : Nat) (a0_0 : Int) (a0_1 : Int) (a1 : Int) (r1 : Int) (r2 : Int) (r3 : Int) (r4 : Bool) (w : World) (h : tenancyref01_Clip.f k a0_0 a0_1 a1 = some (r1, r2, r3, r4)) :
 Calls Try.prog 101 #[.agg #[.int .u64 a0_0, .int .u64 a0_1], .int .i64 a1] w fun e w' => e = .returned (.tuple #[.agg #[.int .u64 r1, .int .u64 r2, .int .i64 r3], .bool r4]) ∧ Below w.heap.size w w' := by
 have hu54 := Try.underlying54
 have hu56 := Try.underlying56
 have HB := ak_ (Below.refl w.heap.size w)
 have H : (if a1 < 0 then (tenancyref01_Clip.j0 k a1 true a0_0 a0_1) else (tenancyref01_Clip.j0 k a1 (decide (a1 > 128)) a0_0 a0_1)) = some (r1, r2, r3, r4) := h
 clear h
 have HC3 := ak_ H
 clear H
 go_enter Try.func101, Try.ntmps101
 go_upto_region 1 with (first | ((with_reducible refine gate_dst (N := 2) rfl ?_); refine box_event ?hg (N := 2) ?hd (cs := #[.int .u64 a0_0, .int .u64 a0_1]) (t := 54) ?hr ?_; (case hd => rfl); (case hg => rfl); (case hr => go_simp; done); intro gb293 hg w4 hbox hb; have BK293 := ak_ hbox; have GW293 := gz_ HB hg; have GE293 := gz_ HB hg; replace HB := bs_ HB hb; clear hb hbox hg) | ((with_reducible refine gate_dst (N := 4) rfl ?_); refine box_event ?hg (N := 4) ?hd (cs := #[.int .u64 0, .int .u64 0, .int .i64 0]) (t := 56) ?hr ?_; (case hd => rfl); (case hg => rfl); (case hr => go_simp; done); intro gb294 hg w5 hbox hb; have BK294 := ak_ hbox; have GW294 := gz_ HB hg; have GE294 := gz_ HB hg; replace HB := bs_ HB hb; have NB293_294 := gl_ BK293 hg; have NB294_293 := gr_ BK293 hg; replace BK293 := bb_ BK293 hb; clear hb hbox hg))
 (try simp only [Act.put, List.setIfInBounds_toArray, List.set_cons_zero, List.set_cons_succ])
 go_cut [13] (fun v13 wc => ∃ (kq : Nat) (x13_2 : Bool), v13 = .bool x13_2 ∧ Aside0 (tenancyref01_Clip.j0 kq a1 x13_2 a0_0 a0_1 = some (r1, r2, r3, r4)) ∧ Aside0 (kq ≤ k) ∧ Aside0 (wc.heap[gb293]? = some (.cells #[.int .u64 a0_0, .int .u64 a0_1] 54 (0, 0))) ∧ Aside0 (wc.heap[gb294]? = some (.cells #[.int .u64 0, .int .u64 0, .int .i64 0] 56 (0, 0))) ∧ Aside0 (Below w.heap.size w wc))
 case first =>
  have H := HC3.out
  clear HC3
  by_cases c6 : a1 < 0
  ·rw [if_pos c6] at H
   have c6b0 : decide (a1 < 0) = true := decide_eq_true c6
   clear c6
   (first | skip)
   have H' := ak_ H
   clear H
   go_wp2
   go_meet
   case rel => exact ⟨_, (true), (by rfl), H', ⟨by omega⟩, ⟨by exact BK293.out⟩, ⟨by exact BK294.out⟩, ⟨by exact HB.out⟩⟩
  rw [if_neg c6] at H
  have c6b0 : decide (a1 < 0) = false := decide_eq_false c6
  clear c6
  (first | skip)
  have H' := ak_ H
  clear H
  go_wp2
  go_meet
  case rel => exact ⟨_, (decide (a1 > 128)), (by rfl), H', ⟨by omega⟩, ⟨by exact BK293.out⟩, ⟨by exact BK294.out⟩, ⟨by exact HB.out⟩⟩
 case rest =>
 clear HC3
 try clear c1
 try clear p2
 try clear c6
 try clear c6b0
 obtain ⟨kq, x13_2, rfl, HA, HJ2, BK293, BK294, HB⟩ := hcut
 cases kq with
 | zero => exact absurd HA.out (by simp [tenancyref01_Clip.j0])
 | succ kj2 =>
 have H := HA.out
 clear HA
 simp only [tenancyref01_Clip.j0] at H
 by_cases c7 : x13_2 = true
 ·subst c7
  have H1 : (some (0, 0, 0, false)) = some (r1, r2, r3, r4) := by rw [if_pos rfl] at H; exact H
  clear H
  have H := H1
  clear H1
  simp only [Option.some.injEq, Prod.mk.injEq] at H
  obtain ⟨rfl, rfl, rfl, rfl⟩ := H
  have hnb8 := NB294_293.out
  have hnc8 := NB293_294.out
  have hz9 := bz3_ BK294
  go_wp2
  refine bodyPost_ret (results_ct rfl _ _ gb294 56 #[.int .u64 0, .int .u64 0, .int .i64 0] (0, 0) _ rfl (by refine blk_put (cs := #[.int .u64 0, .int .u64 0, .int .i64 0]) ?_ 2 _ rfl; refine blk_put (cs := #[.int .u64 0, .int .u64 0, .int .i64 0]) ?_ 1 _ rfl; refine blk_put (cs := #[.int .u64 0, .int .u64 0, .int .i64 0]) ?_ 0 _ rfl; exact BK294.out) Try.underlying56 rfl (by kernel_rfl)) rfl ?_
  exact ⟨by rfl, by repeat (first | (with_reducible first | exact HB.out | refine below_set ?_ GE294.out))⟩
 replace c7 := Bool.eq_false_iff.mpr c7
 subst c7
 have H1 : (tenancyref01_Clip.l0 kj2 a1 0 a0_0 a0_1 0 0) = some (r1, r2, r3, r4) := by rw [if_neg (show ¬ (false = true) by decide)] at H; exact H
 clear H
 have H := H1
 clear H1
 have H' := ak_ H
 clear H
 go_wp2_with (first | ((with_reducible refine gate_dst (N := 6) rfl ?_); refine box_event ?hg (N := 6) ?hd (cs := #[.int .u64 0, .int .u64 0]) (t := 54) ?hr ?_; (case hd => rfl); (case hg => rfl); (case hr => go_simp; done); intro gb295 hg w10 hbox hb; have BK295 := ak_ hbox; have GW295 := gz_ HB hg; have GE295 := gz_ HB hg; replace HB := bs_ HB hb; have NB293_295 := gl_ BK293 hg; have NB295_293 := gr_ BK293 hg; replace BK293 := bb_ BK293 hb; have NB294_295 := gl_ BK294 hg; have NB295_294 := gr_ BK294 hg; replace BK294 := bb_ BK294 hb; clear hb hbox hg; have hnb11 := NB295_293.out; have hnc11 := NB293_295.out; have hnb12 := NB295_294.out; have hnc12 := NB294_295.out; have hz13 := bz2_ BK295))
 go_loopg [7] kj2 (fun kq v7 w' => ∃ (x7_2 : Int) (x296000_2 : Int) (x296001_2 : Int), v7 = .int .i64 x7_2 ∧ Aside0 (tenancyref01_Clip.l0 kq a1 x7_2 a0_0 a0_1 x296000_2 x296001_2 = some (r1, r2, r3, r4)) ∧ Aside0 (kq ≤ kj2) ∧ Aside0 (w'.heap[gb293]? = some (.cells #[.int .u64 a0_0, .int .u64 a0_1] 54 (0, 0))) ∧ Aside0 (w'.heap[gb294]? = some (.cells #[.int .u64 0, .int .u64 0, .int .i64 0] 56 (0, 0))) ∧ Aside0 (w'.heap[gb295]? = some (.cells #[.int .u64 x296000_2, .int .u64 x296001_2] 54 (0, 0))) ∧ Aside0 (Below w.heap.size w w'))
 case atStart => exact ⟨(0), (0), (0), (by rfl), H', ⟨Nat.le_refl _⟩, ⟨by refine blk_far ?_ NB293_295.out _; refine blk_far ?_ NB293_295.out _; exact BK293.out⟩, ⟨by refine blk_far ?_ NB294_295.out _; refine blk_far ?_ NB294_295.out _; exact BK294.out⟩, ⟨by refine blk_put (cs := #[.int .u64 0, .int .u64 0]) ?_ 1 _ rfl; refine blk_put (cs := #[.int .u64 0, .int .u64 0]) ?_ 0 _ rfl; exact BK295.out⟩, ⟨by repeat (first | (with_reducible first | exact HB.out | refine below_set ?_ GE295.out))⟩⟩
 case round =>
 clear H'
 try clear c1
 try clear p2
 try clear c6
 try clear c6b0
 try clear c7
 try clear c8
 try clear c10
 try clear c11
 try clear c12
 try clear hz13
 try clear hz9
 try clear p2
 obtain ⟨x7_2, x296000_2, x296001_2, rfl, HA, HK2, BK293, BK294, BK295, HB⟩ := hrel
 cases gk with
 | zero => exact absurd HA.out (by simp [tenancyref01_Clip.l0])
 | succ k2 =>
 have H := HA.out
 clear HA
 simp only [tenancyref01_Clip.l0] at H
 by_cases c14 : x7_2 < a1
 ·rw [if_pos c14] at H
  have c14b0 : decide (x7_2 < a1) = true := decide_eq_true c14
  clear c14
  replace H := Option.bind_eq_some_iff.mp H
  obtain ⟨t296, A150, H⟩ := H
  replace H : (if t296 = 1 then ((tenancyref01_with.f x296000_2 x296001_2 x7_2).bind fun bt297 => (tenancyref01_Clip.l0 k2 a1 (wrap64 (x7_2 + 1)) a0_0 a0_1 bt297.1 bt297.2)) else (tenancyref01_Clip.l0 k2 a1 (wrap64 (x7_2 + 1)) a0_0 a0_1 x296000_2 x296001_2)) = some (r1, r2, r3, r4) := H
  have A15 := ak_ A150
  clear A150
  by_cases c16 : t296 = 1
  ·rw [if_pos c16] at H
   have c16b0 : (t296 == 1) = true := beq_iff_eq.mpr c16
   have c16b1 : (t296 != 1) = false := bne_eq_false_iff_eq.mpr c16
   clear c16
   replace H := Option.bind_eq_some_iff.mp H
   obtain ⟨⟨t297, t298⟩, A170, H⟩ := H
   replace H : (tenancyref01_Clip.l0 k2 a1 (wrap64 (x7_2 + 1)) a0_0 a0_1 t297 t298) = some (r1, r2, r3, r4) := H
   have A17 := ak_ A170
   clear A170
   have H' := ak_ H
   clear H
   have hnb18 := NB293_294.out
   have hnc18 := NB294_293.out
   have hnb19 := NB293_295.out
   have hnc19 := NB295_293.out
   have hz20 := bz2_ BK293
   go_wp2_with (first | ((with_reducible refine gate_callee (f := 107) rfl ?_); refine goesL_ (some 23) rfl rfl Try.func107 (by kernel_rfl) rfl #[.agg #[.int .u64 a0_0, .int .u64 a0_1], .int .i64 x7_2] rfl (by (try simp only [List.map_toArray, List.map_cons, List.map_nil]); first | rfl) ?_; (with_reducible refine (tenancyref01_bit.calls a0_0 a0_1 x7_2 t296 _ A15.out).mono ?_); rintro e w21 ⟨rfl, hb⟩; refine ⟨_, rfl, ?_⟩; replace BK293 := bb_ BK293 hb; replace BK294 := bb_ BK294 hb; replace BK295 := bb_ BK295 hb; replace HB := bs_ HB hb; (try clear hb); have hnb22 := NB295_294.out; have hnc22 := NB294_295.out; have hz23 := bz2_ BK295) | ((with_reducible refine gate_callee (f := 108) rfl ?_); refine goesL_ (some 27) rfl rfl Try.func108 (by kernel_rfl) rfl #[.agg #[.int .u64 x296000_2, .int .u64 x296001_2], .int .i64 x7_2] rfl (by (try simp only [List.map_toArray, List.map_cons, List.map_nil]); first | rfl) ?_; (with_reducible refine (tenancyref01_with.calls x296000_2 x296001_2 x7_2 t297 t298 _ A17.out).mono ?_); rintro e w24 ⟨rfl, hb⟩; refine ⟨_, rfl, ?_⟩; replace BK293 := bb_ BK293 hb; replace BK294 := bb_ BK294 hb; replace BK295 := bb_ BK295 hb; replace HB := bs_ HB hb; (try clear hb); have hz25 := bz2_ BK295))
   go_roundg k2
   case measure => have := HJ2.out; have := HK2.out; omega
   case rel => exact ⟨(wrap64 (x7_2 + 1)), (t297), (t298), (by rfl), H', ⟨by have := HJ2.out; have := HK2.out; omega⟩, ⟨by refine blk_far ?_ NB293_295.out _; refine blk_far ?_ NB293_295.out _; exact BK293.out⟩, ⟨by refine blk_far ?_ NB294_295.out _; refine blk_far ?_ NB294_295.out _; exact BK294.out⟩, ⟨by refine blk_put (cs := #[.int .u64 t297, .int .u64 x296001_2]) ?_ 1 _ rfl; refine blk_put (cs := #[.int .u64 x296000_2, .int .u64 x296001_2]) ?_ 0 _ rfl; exact BK295.out⟩, ⟨by repeat (first | (with_reducible first | exact HB.out | refine below_set ?_ GE295.out))⟩⟩
  rw [if_neg c16] at H
  have c16b0 : (t296 == 1) = false := beq_eq_false_iff_ne.mpr c16
  have c16b1 : (t296 != 1) = true := bne_iff_ne.mpr c16
  have H' := ak_ H
  clear H
  have hnb26 := NB293_294.out
  have hnc26 := NB294_293.out
  have hnb27 := NB293_295.out
  have hnc27 := NB295_293.out
  have hz28 := bz2_ BK293
  go_wp2_with (first | ((with_reducible refine gate_callee (f := 107) rfl ?_); refine goesL_ (some 23) rfl rfl Try.func107 (by kernel_rfl) rfl #[.agg #[.int .u64 a0_0, .int .u64 a0_1], .int .i64 x7_2] rfl (by (try simp only [List.map_toArray, List.map_cons, List.map_nil]); first | rfl) ?_; (with_reducible refine (tenancyref01_bit.calls a0_0 a0_1 x7_2 t296 _ A15.out).mono ?_); rintro e w29 ⟨rfl, hb⟩; refine ⟨_, rfl, ?_⟩; replace BK293 := bb_ BK293 hb; replace BK294 := bb_ BK294 hb; replace BK295 := bb_ BK295 hb; replace HB := bs_ HB hb; (try clear hb)))
  go_roundg k2
  case measure => have := HJ2.out; have := HK2.out; omega
  case rel => exact ⟨(wrap64 (x7_2 + 1)), (x296000_2), (x296001_2), (by rfl), H', ⟨by have := HJ2.out; have := HK2.out; omega⟩, ⟨by exact BK293.out⟩, ⟨by exact BK294.out⟩, ⟨by exact BK295.out⟩, ⟨by exact HB.out⟩⟩
 rw [if_neg c14] at H
 have c14b0 : decide (x7_2 < a1) = false := decide_eq_false c14
 clear c14
 simp only [Option.some.injEq, Prod.mk.injEq] at H
 obtain ⟨rfl, rfl, rfl, rfl⟩ := H
 have hnb30 := NB295_293.out
 have hnc30 := NB293_295.out
 have hnb31 := NB295_294.out
 have hnc31 := NB294_295.out
 have hz32 := bz2_ BK295
 have hnb33 := NB294_293.out
 have hnc33 := NB293_294.out
 have hz34 := bz3_ BK294
 go_wp2
 refine bodyPost_ret (results_ct rfl _ _ gb294 56 #[.int .u64 x296000_2, .int .u64 x296001_2, .int .i64 a1] (0, 0) _ rfl (by refine blk_put (cs := #[.int .u64 x296000_2, .int .u64 x296001_2, .int .i64 0]) ?_ 2 _ rfl; refine blk_put (cs := #[.int .u64 x296000_2, .int .u64 0, .int .i64 0]) ?_ 1 _ rfl; refine blk_put (cs := #[.int .u64 0, .int .u64 0, .int .i64 0]) ?_ 0 _ rfl; exact BK294.out) Try.underlying56 rfl (by kernel_rfl)) rfl ?_
 exact ⟨by rfl, by repeat (first | (with_reducible first | exact HB.out | refine below_set ?_ GE294.out))⟩

def tenancyref01_Sound.f (k : Nat) (a0_0 : Int) (a0_1 : Int) (a0_2 : Int) : Option (Bool) := (tenancyref01_Clip.f k a0_0 a0_1 a0_2).bind fun bt300 => (if bt300.2.2.2 = true then (some ((bt300.1 == a0_0 && (bt300.2.1 == a0_1)) && (bt300.2.2.1 == a0_2))) else (some false))
set_option maxHeartbeats 8000000 in
set_option maxRecDepth 100000 in
theorem tenancyref01_Sound.calls (k : Nat) (a0_0 : Int) (a0_1 : Int) (a0_2 : Int) (r : Bool) (w : World) (h : tenancyref01_Sound.f k a0_0 a0_1 a0_2 = some r) :
 Calls Try.prog 93 #[.agg #[.int .u64 a0_0, .int .u64 a0_1, .int .i64 a0_2]] w fun e w' => e = .returned (.bool r) ∧ Below w.heap.size w w' := by
 have hu56 := Try.underlying56
 have hu54 := Try.underlying54
 have HB := ak_ (Below.refl w.heap.size w)
 have H : ((tenancyref01_Clip.f k a0_0 a0_1 a0_2).bind fun bt300 => (if bt300.2.2.2 = true then (some ((bt300.1 == a0_0 && (bt300.2.1 == a0_1)) && (bt300.2.2.1 == a0_2))) else (some false))) = some r := h
 clear h
 replace H := Option.bind_eq_some_iff.mp H
 obtain ⟨⟨t300, t301, t302, t303⟩, A20, H⟩ := H
 replace H : (if t303 = true then (some ((t300 == a0_0 && (t301 == a0_1)) && (t302 == a0_2))) else (some false)) = some r := H
 have A2 := ak_ A20
 clear A20
 by_cases c3 : t303 = true
 ·subst c3
  have H1 : (some ((t300 == a0_0 && (t301 == a0_1)) && (t302 == a0_2))) = some r := by rw [if_pos rfl] at H; exact H
  clear H
  have H := H1
  clear H1
  obtain rfl := Option.some.inj H
  go_enter Try.func93, Try.ntmps93
  go_wp2_with (first | ((with_reducible refine gate_dst (N := 1) rfl ?_); refine box_event ?hg (N := 1) ?hd (cs := #[.int .u64 a0_0, .int .u64 a0_1, .int .i64 a0_2]) (t := 56) ?hr ?_; (case hd => rfl); (case hg => rfl); (case hr => go_simp; done); intro gb299 hg w4 hbox hb; have BK299 := ak_ hbox; have GW299 := gz_ HB hg; have GE299 := gz_ HB hg; replace HB := bs_ HB hb; clear hb hbox hg; have hz5 := bz3_ BK299) | ((with_reducible refine gate_callee (f := 101) rfl ?_); refine goesL_ (some 10) rfl rfl Try.func101 (by kernel_rfl) rfl #[.agg #[.int .u64 a0_0, .int .u64 a0_1], .int .i64 a0_2] rfl (by (try simp only [List.map_toArray, List.map_cons, List.map_nil]); first | rfl) ?_; (with_reducible refine (tenancyref01_Clip.calls k a0_0 a0_1 a0_2 t300 t301 t302 true _ A2.out).mono ?_); rintro e w6 ⟨rfl, hb⟩; refine ⟨_, rfl, ?_⟩; replace BK299 := bb_ BK299 hb; replace HB := bs_ HB hb; (try clear hb)) | ((with_reducible refine gate_dst (N := 3) rfl ?_); refine box_event ?hg (N := 3) ?hd (cs := #[.int .u64 0, .int .u64 0, .int .i64 0]) (t := 56) ?hr ?_; (case hd => rfl); (case hg => rfl); (case hr => go_simp; done); intro gb304 hg w7 hbox hb; have BK304 := ak_ hbox; have GW304 := gz_ HB hg; have GE304 := gz_ HB hg; replace HB := bs_ HB hb; have NB299_304 := gl_ BK299 hg; have NB304_299 := gr_ BK299 hg; replace BK299 := bb_ BK299 hb; clear hb hbox hg; have hnb8 := NB304_299.out; have hnc8 := NB299_304.out; have hz9 := bz3_ BK304; have hz10 := bz3_ BK299))
  go_ret
  exact ⟨by rfl, by repeat (first | (with_reducible first | exact HB.out | refine below_set ?_ GE304.out))⟩
 replace c3 := Bool.eq_false_iff.mpr c3
 subst c3
 have H1 : (some false) = some r := by rw [if_neg (show ¬ (false = true) by decide)] at H; exact H
 clear H
 have H := H1
 clear H1
 obtain rfl := Option.some.inj H
 go_enter Try.func93, Try.ntmps93
 go_wp2_with (first | ((with_reducible refine gate_dst (N := 1) rfl ?_); refine box_event ?hg (N := 1) ?hd (cs := #[.int .u64 a0_0, .int .u64 a0_1, .int .i64 a0_2]) (t := 56) ?hr ?_; (case hd => rfl); (case hg => rfl); (case hr => go_simp; done); intro gb299 hg w11 hbox hb; have BK299 := ak_ hbox; have GW299 := gz_ HB hg; have GE299 := gz_ HB hg; replace HB := bs_ HB hb; clear hb hbox hg; have hz12 := bz3_ BK299) | ((with_reducible refine gate_callee (f := 101) rfl ?_); refine goesL_ (some 10) rfl rfl Try.func101 (by kernel_rfl) rfl #[.agg #[.int .u64 a0_0, .int .u64 a0_1], .int .i64 a0_2] rfl (by (try simp only [List.map_toArray, List.map_cons, List.map_nil]); first | rfl) ?_; (with_reducible refine (tenancyref01_Clip.calls k a0_0 a0_1 a0_2 t300 t301 t302 false _ A2.out).mono ?_); rintro e w13 ⟨rfl, hb⟩; refine ⟨_, rfl, ?_⟩; replace BK299 := bb_ BK299 hb; replace HB := bs_ HB hb; (try clear hb)) | ((with_reducible refine gate_dst (N := 3) rfl ?_); refine box_event ?hg (N := 3) ?hd (cs := #[.int .u64 0, .int .u64 0, .int .i64 0]) (t := 56) ?hr ?_; (case hd => rfl); (case hg => rfl); (case hr => go_simp; done); intro gb304 hg w14 hbox hb; have BK304 := ak_ hbox; have GW304 := gz_ HB hg; have GE304 := gz_ HB hg; replace HB := bs_ HB hb; have NB299_304 := gl_ BK299 hg; have NB304_299 := gr_ BK299 hg; replace BK299 := bb_ BK299 hb; clear hb hbox hg; have hnb15 := NB304_299.out; have hnc15 := NB299_304.out; have hz16 := bz3_ BK304))
 go_ret
 exact ⟨by rfl, by repeat (first | (with_reducible first | exact HB.out | refine below_set ?_ GE304.out))⟩

end Go.Proofs.Ythadapbekmmgpaa.X
