/- Functions of the program as Lean functions, and that the calls come to them: no condition.  By this session's own program (wip/xprint). -/
import Derived.Test.YtfpamalmkmhpgaaG0
import Derived.Test.YtfpamalmkmhpgaaG1
import Derived.Test.YtfpamalmkmhpgaaG2
namespace Go.Proofs.Ytfpamalmkmhpgaa.X
open Go.RowKit Go.Proofs.YtfpamalmkmhpgaaW.PrintWords Go.Proofs.YtfpamalmkmhpgaaW.PrintLast Go.Proofs.YtfpamalmkmhpgaaW.PrintMore
attribute [local go_sem] max2_int min2_int max_two min_two max_three min_three max_four min_four   -- for this text's walks alone
set_option linter.unusedVariables false
set_option linter.unusedSimpArgs false
attribute [local go_sem high] eqA33
theorem put16_some (a : Int) : ∃ r, octet_Put16.f 300 a = some r ∧ r.size = 2 := by
  unfold octet_Put16.f octet_put_uint16.f
  rw [if_pos (by decide +kernel), if_pos (by decide +kernel), Option.bind_some]
  generalize hl : (List.replicate (2 : Int).toNat 0 : List Int) = l
  have hz : l.length = 2 := by rw [← hl]; rfl
  rw [hz]
  clear hl
  rw [show (300 : Nat) = 299 + 1 from rfl, octet_put_uint16.l0, if_pos (by decide +kernel), if_pos (by decide +kernel), if_pos (by decide +kernel), if_pos (by simp only [List.length_set, hz]; decide +kernel)]
  rw [show (299 : Nat) = 298 + 1 from rfl, octet_put_uint16.l0, if_pos (by decide +kernel), if_pos (by decide +kernel), if_pos (by decide +kernel), if_pos (by simp only [List.length_set, hz]; decide +kernel)]
  rw [show (298 : Nat) = 297 + 1 from rfl, octet_put_uint16.l0, if_neg (by decide +kernel), Option.bind_some]
  exact ⟨_, rfl, by simp [strOfNums, ByteArray.size, hz]⟩
theorem put64_some (a : Int) : ∃ r, octet_Put64.f 300 a = some r ∧ r.size = 8 := by
  unfold octet_Put64.f octet_put_uint64.f
  rw [if_pos (by decide +kernel), if_pos (by decide +kernel), Option.bind_some]
  generalize hl : (List.replicate (8 : Int).toNat 0 : List Int) = l
  have hz : l.length = 8 := by rw [← hl]; rfl
  rw [hz]
  clear hl
  rw [show (300 : Nat) = 299 + 1 from rfl, octet_put_uint64.l0, if_pos (by decide +kernel), if_pos (by decide +kernel), if_pos (by decide +kernel), if_pos (by simp only [List.length_set, hz]; decide +kernel)]
  rw [show (299 : Nat) = 298 + 1 from rfl, octet_put_uint64.l0, if_pos (by decide +kernel), if_pos (by decide +kernel), if_pos (by decide +kernel), if_pos (by simp only [List.length_set, hz]; decide +kernel)]
  rw [show (298 : Nat) = 297 + 1 from rfl, octet_put_uint64.l0, if_pos (by decide +kernel), if_pos (by decide +kernel), if_pos (by decide +kernel), if_pos (by simp only [List.length_set, hz]; decide +kernel)]
  rw [show (297 : Nat) = 296 + 1 from rfl, octet_put_uint64.l0, if_pos (by decide +kernel), if_pos (by decide +kernel), if_pos (by decide +kernel), if_pos (by simp only [List.length_set, hz]; decide +kernel)]
  rw [show (296 : Nat) = 295 + 1 from rfl, octet_put_uint64.l0, if_pos (by decide +kernel), if_pos (by decide +kernel), if_pos (by decide +kernel), if_pos (by simp only [List.length_set, hz]; decide +kernel)]
  rw [show (295 : Nat) = 294 + 1 from rfl, octet_put_uint64.l0, if_pos (by decide +kernel), if_pos (by decide +kernel), if_pos (by decide +kernel), if_pos (by simp only [List.length_set, hz]; decide +kernel)]
  rw [show (294 : Nat) = 293 + 1 from rfl, octet_put_uint64.l0, if_pos (by decide +kernel), if_pos (by decide +kernel), if_pos (by decide +kernel), if_pos (by simp only [List.length_set, hz]; decide +kernel)]
  rw [show (293 : Nat) = 292 + 1 from rfl, octet_put_uint64.l0, if_pos (by decide +kernel), if_pos (by decide +kernel), if_pos (by decide +kernel), if_pos (by simp only [List.length_set, hz]; decide +kernel)]
  rw [show (292 : Nat) = 291 + 1 from rfl, octet_put_uint64.l0, if_neg (by decide +kernel), Option.bind_some]
  exact ⟨_, rfl, by simp [strOfNums, ByteArray.size, hz]⟩
theorem putAddr_some (a b : Int) : ∃ r, octet_PutAddr.f 300 a b = some r ∧ r.size = 16 := by
  obtain ⟨x, hx, h1⟩ := put64_some a
  obtain ⟨y, hy, h2⟩ := put64_some b
  refine ⟨x ++ y, ?_, by rw [ByteArray.size_append, h1, h2]⟩
  unfold octet_PutAddr.f
  rw [hx, Option.bind_some, hy, Option.bind_some, if_pos (by omega)]
theorem run_some (s : ByteArray) : ∃ r, octet_Run.f 300 s = some r ∧ r.1.size ≤ 65537 := by
  unfold octet_Run.f
  by_cases h : (s.size : Int) > 65535
  · rw [if_pos h]; exact ⟨_, rfl, by decide⟩
  · rw [if_neg h]
    obtain ⟨p, hp, h1⟩ := put16_some (IntKind.u16.wrap (s.size : Int))
    rw [hp, Option.bind_some, if_pos (by omega)]
    exact ⟨_, rfl, by show (p ++ s).size ≤ 65537; rw [ByteArray.size_append]; omega⟩
theorem emit_some : ∀ (l : List S42) (acc : ByteArray), acc.size + 65539 * l.length ≤ 140737488355328 → ∃ r, opt6_Emit.l l acc = some r ∧ r.1.size ≤ acc.size + 65539 * l.length
  | [], acc, _ => ⟨_, rfl, by show acc.size ≤ _; omega⟩
  | x :: l, acc, h => by
    obtain ⟨r, hr, h1⟩ := run_some x.f1
    obtain ⟨p, hp, h2⟩ := put16_some x.f0
    rw [List.length_cons] at h ⊢
    rw [opt6_Emit.l, hr, Option.bind_some]
    by_cases hb : r.2 = true
    · have hz : (acc ++ p ++ r.1).size ≤ acc.size + 65539 := by rw [ByteArray.size_append, ByteArray.size_append]; omega
      rw [if_pos hb, hp, Option.bind_some, if_pos (by omega)]
      obtain ⟨q, hq, h3⟩ := emit_some l (acc ++ p ++ r.1) (by omega)
      exact ⟨q, hq, by omega⟩
    · rw [if_neg hb]
      exact ⟨_, rfl, by show (0 : Nat) ≤ _; omega⟩
/-! ### slices.ContainsFunc over []api.Relay with relay.Wrap's literal: by hand -/
/-- Whether a relay can't be written. -/
def wbad (r : S39) : Bool := decide (r.f0 < 0) || (decide (255 < r.f0) || (!(r.f3.toList == ([] : List UInt8)) && !r.f4))
set_option maxHeartbeats 2000000 in
set_option maxRecDepth 100000 in
theorem wbad_lit (x : S39) (w : World) :
    Calls Try.prog 21 #[.agg #[.int .i64 x.f0, .int .u64 x.f1.f0, .int .u64 x.f1.f1, .int .u64 x.f2.f0, .int .u64 x.f2.f1, .string x.f3, .bool x.f4]] w fun e w' => e = .returned (.bool (wbad x)) ∧ Below w.heap.size w w' := by
  obtain ⟨r, hr⟩ : ∃ r, r = wbad x := ⟨_, rfl⟩
  rw [← hr]
  unfold wbad at hr
  obtain ⟨f0, ⟨f10, f11⟩, ⟨f20, f21⟩, f3, f4⟩ := x
  dsimp only at hr ⊢
  have HR := Aside0.mk hr
  clear hr
  have hu := Try.underlying39
  by_cases h1 : f0 < 0
  · have b1 : decide (f0 < 0) = true := decide_eq_true h1
    obtain rfl : r = true := by rw [HR.out, b1]; rfl
    clear HR h1
    go_enter Try.func21, Try.ntmps21
    go_wp2
    go_ret
    exact ⟨rfl, (Below.refl _ _).alloc (Nat.le_refl _) _⟩
  have b1 : decide (f0 < 0) = false := decide_eq_false h1
  by_cases h2 : 255 < f0
  · have b2 : decide (255 < f0) = true := decide_eq_true h2
    obtain rfl : r = true := by rw [HR.out, b1, b2]; rfl
    clear HR h1 h2
    go_enter Try.func21, Try.ntmps21
    go_wp2
    go_ret
    exact ⟨rfl, (Below.refl _ _).alloc (Nat.le_refl _) _⟩
  have b2 : decide (255 < f0) = false := decide_eq_false h2
  cases h3 : (f3.toList == ([] : List UInt8))
  · have b3 : (f3.toList != ([] : List UInt8)) = true := by simp [bne, h3]
    have b4 : f3.toList.isEmpty = false := by
      cases hl : f3.toList with
      | nil => rw [hl] at h3; cases h3
      | cons a l => rfl
    obtain rfl : r = !f4 := by rw [HR.out, b1, b2, h3]; cases f4 <;> rfl
    clear HR h1 h2
    cases f4
    all_goals
      go_enter Try.func21, Try.ntmps21
      go_wp2
      go_ret
      exact ⟨rfl, (Below.refl _ _).alloc (Nat.le_refl _) _⟩
  · have b3 : (f3.toList != ([] : List UInt8)) = false := by simp [bne, h3]
    obtain rfl : r = false := by rw [HR.out, b1, b2, h3]; rfl
    have h4 : f3.toList = [] := by simpa using h3
    clear HR h1 h2 h3
    go_enter Try.func21, Try.ntmps21
    go_wp2
    go_ret
    exact ⟨rfl, (Below.refl _ _).alloc (Nat.le_refl _) _⟩
theorem enters_wbad : ∀ args w, (callFunc 21 args).run Try.prog w = .ok (.enter 21 args) w := fun args w => enters_ Try.func21 (by kernel_rfl) rfl args w
def wbadI : List S39 → Nat → Int
  | [], _ => -1
  | x :: l, i => if wbad x = true then (i : Int) else wbadI l (i + 1)
theorem wbadI_any : ∀ (l : List S39) (i : Nat), decide (0 ≤ wbadI l i) = l.any wbad
  | [], _ => rfl
  | x :: l, i => by
    rw [wbadI, List.any_cons]
    cases h : wbad x
    · rw [if_neg (by decide), Bool.false_or]; exact wbadI_any l (i + 1)
    · rw [if_pos rfl, Bool.true_or]; exact decide_eq_true (by omega)
set_option maxHeartbeats 2000000 in
theorem wbad_index (A0 : Option Addr) (c0 : Nat) (l0 : List S39) (w : World) (hr0 : Kd.C k39 w A0 l0.length l0) :
    Calls Try.prog 37 #[.slice A0 l0.length c0, .func (.func 21) #[] #[]] w fun e w' => e = .returned (.int .i64 (wbadI l0 0)) ∧ Below w.heap.size w w' := by
  have hn : l0.length ≤ 9223372036854775807 := Kd.C_max hr0
  obtain ⟨r, hrr⟩ : ∃ r, r = wbadI l0 0 := ⟨_, rfl⟩
  rw [← hrr]
  have HN := Aside0.mk hn
  have HR := Aside0.mk hr0
  have H := Aside0.mk hrr
  clear hr0 hrr hn
  have hu := Try.underlying39
  have eg := enters_wbad
  go_enter Try.func37, Try.ntmps37
  go_wp2
  go_loopg [5, 8] l0.length (fun gg _ s8 wr => ∃ kk : Nat, Aside0 (kk ≤ l0.length ∧ l0.length - kk ≤ gg) ∧ s8 = .int .i64 kk ∧ Aside0 (Below w.heap.size w wr) ∧ Aside0 (r = wbadI (l0.drop kk) kk))
  case atStart => exact ⟨0, ⟨Nat.zero_le _, by omega⟩, rfl, ⟨Below.refl _ w⟩, H⟩
  case round =>
    clear H
    obtain ⟨kk, HK, rfl, BW, H⟩ := hrel
    by_cases hlt : kk < l0.length
    · have hltz : (kk : Int) < (l0.length : Int) := by omega
      obtain ⟨ad, rfl, hc0, hc1, hc2, hc3, hc4, hc5, hc6⟩ := at_T39 (Kd.C_below HR.out BW.out) (kk : Int) (by omega) hltz
      simp only [Int.toNat_natCast] at hc0 hc1 hc2 hc3 hc4 hc5 hc6
      have hd : l0.drop kk = (rd_T39 l0 (kk : Int)) :: l0.drop (kk + 1) := by
        rw [List.drop_eq_getElem_cons hlt]
        simp [rd_T39, List.getD_eq_getElem?_getD, List.getElem?_eq_getElem hlt]
      have h := H.out
      rw [hd, wbadI] at h
      clear hd H
      have hlit := fun W => wbad_lit (rd_T39 l0 (kk : Int)) W
      have HLT := Aside0.mk hlt
      clear hlt
      obtain ⟨b, hb⟩ : ∃ b, b = wbad (rd_T39 l0 (kk : Int)) := ⟨_, rfl⟩
      rw [← hb] at h hlit
      clear hb
      cases b with
      | true =>
        rw [if_pos rfl] at h
        subst h
        go_wp2_with (go_at_call 21; refine (hlit _).mono ?_; rintro e w' ⟨rfl, hb'⟩; have HB9 := Aside0.mk (below_step BW.out hb'); clear hb')
        go_ret
        exact ⟨rfl, HB9.out⟩
      | false =>
        rw [if_neg (by decide)] at h
        have H := Aside0.mk h
        clear h
        go_wp2_with (go_at_call 21; refine (hlit _).mono ?_; rintro e w' ⟨rfl, hb'⟩; have HB9 := Aside0.mk (below_step BW.out hb'); clear hb')
        go_roundg (l0.length - (kk + 1))
        case measure => have := HK.out; have := HLT.out; omega
        case rel => exact ⟨kk + 1, ⟨by have := HLT.out; omega, Nat.le_refl _⟩, by have := HN.out; have := HLT.out; rw [Go.IntWalk.wrap64_in _ (by omega)]; rfl, HB9, H⟩
    · have hltz : ¬ (kk : Int) < (l0.length : Int) := by omega
      obtain rfl : kk = l0.length := by have := HK.out; omega
      have h := H.out
      rw [List.drop_length, wbadI] at h
      subst h
      clear H
      go_wp2
      go_ret
      exact ⟨rfl, BW.out⟩
theorem wbad_calls (A0 : Option Addr) (c0 : Nat) (l0 : List S39) (w : World) (hr0 : Kd.C k39 w A0 l0.length l0) :
    Calls Try.prog 22 #[.slice A0 l0.length c0, .func (.func 21) #[] #[]] w fun e w' => e = .returned (.bool (l0.any wbad)) ∧ Below w.heap.size w w' := by
  have hx := wbad_index A0 c0 l0 w hr0
  rw [← wbadI_any l0 0]
  clear hr0
  go_enter Try.func22, Try.ntmps22
  go_wp2_with (go_at_call 37; refine hx.mono ?_; rintro e w' ⟨rfl, hb'⟩)
  go_ret
  exact ⟨rfl, by assumption⟩
/-! ### slices.Insert over []api.Opt6, one ahead of one that has no room: by hand -/
theorem run_copy2 (w : World) (dT sT ty elem : TypeId) (b o dLen dCap : Nat) (a : Addr) (sLen sCap : Nat) (cs : List Value)
    (hu : Try.prog.underlying dT = some (.slice elem)) (hs : (Try.prog.info? elem).map (·.size) = some 2) (hn : cs.length = 2 * Nat.min sLen dLen)
    (hsrc : ∀ j v, cs[j]? = some v → w.cell? (a.add j) = some v) (hc : ∀ j, j < cs.length → (w.cell? ⟨b, o + j, none⟩).isSome = true) (hf : ∀ j, j < cs.length → w.frozen? ⟨b, o + j, none⟩ = false) (h1 : ∀ v ∈ cs, v.oneCell' = true) :
    (Builtin.copy_ #[dT, sT] ty #[.slice (some ⟨b, o, none⟩) dLen dCap, .slice (some a) sLen sCap]).run Try.prog w = .ok (goInt (Nat.min sLen dLen)) (w.setCells b o cs) := by
  have hl := run_loadCells_list (P := Try.prog) w a cs hsrc
  have hst := run_storeCells_cells (P := Try.prog) b o cs 0 w (by simpa using hc) (by simpa using hf) h1
  rw [hn] at hl
  cases hq : Try.prog.info? elem with
  | none => simp [hq] at hs
  | some i =>
    have hi : i.size = 2 := by simpa [hq] using hs
    have hcm : Nat.min sLen dLen * 2 = 2 * Nat.min sLen dLen := by omega
    simp [Builtin.copy_, run_underlying hu, Builtin.lenOf, Builtin.firstCells, sizeOf, typeInfo, hq, hi, hcm, hl, hst]
theorem k42_two {w : World} {g : Nat} (x y : S42) (h0 : w.cell? ⟨g, 0, none⟩ = some (.int .u16 x.f0)) (h1 : w.cell? ⟨g, 1, none⟩ = some (.string x.f1)) (h2 : w.cell? ⟨g, 2, none⟩ = some (.int .u16 y.f0)) (h3 : w.cell? ⟨g, 3, none⟩ = some (.string y.f1)) : Kd.C k42 w (some ⟨g, 0, none⟩) [x, y].length [x, y] := by
  refine ⟨rfl, by simp, fun _ => ⟨_, rfl, ?_⟩⟩
  have e : ∀ j, (⟨g, 0, none⟩ : Addr).add j = ⟨g, j, none⟩ := fun j => add_plain g j
  intro j p hj
  match j, hj with
  | 0, hj =>
    obtain rfl := Option.some.inj hj
    refine ⟨_, rfl, k42_mk w x, fun i u hu => ?_⟩
    rw [e]
    match i, hu with
    | 0, hu => obtain rfl := Option.some.inj hu; exact h0
    | 1, hu => obtain rfl := Option.some.inj hu; exact h1
  | 1, hj =>
    obtain rfl := Option.some.inj hj
    refine ⟨_, rfl, k42_mk w y, fun i u hu => ?_⟩
    rw [e]
    match i, hu with
    | 0, hu => obtain rfl := Option.some.inj hu; exact h2
    | 1, hu => obtain rfl := Option.some.inj hu; exact h3
theorem k42_single {w : World} {g : Nat} (x : S42) (h0 : w.cell? ⟨g, 0, none⟩ = some (.int .u16 x.f0)) (h1 : w.cell? ⟨g, 1, none⟩ = some (.string x.f1)) : Kd.C k42 w (some ⟨g, 0, none⟩) [x].length [x] := by
  refine ⟨rfl, by simp, fun _ => ⟨_, rfl, ?_⟩⟩
  intro j p hj
  match j, hj with
  | 0, hj =>
    obtain rfl := Option.some.inj hj
    refine ⟨_, rfl, k42_mk w x, fun i u hu => ?_⟩
    rw [add_plain]
    match i, hu with
    | 0, hu => obtain rfl := Option.some.inj hu; exact h0
    | 1, hu => obtain rfl := Option.some.inj hu; exact h1
theorem infoO6 : (Try.prog.info? 42).map (fun i => (i.zero, i.size, i.bytes)) = some (some (.agg #[.int .u16 0, .string ⟨#[]⟩]), 2, 24) := by kernel_rfl
set_option maxHeartbeats 4000000 in
set_option maxRecDepth 100000 in
theorem ins_one (b vb : Nat) (x y : S42) (w : World) (hb : w.heap[b]? = some (.cells #[.int .u16 y.f0, .string y.f1] 42 (0, 0))) (hv : w.heap[vb]? = some (.cells #[.int .u16 x.f0, .string x.f1] 42 (0, 0))) :
    Calls Try.prog 24 #[.slice (some ⟨b, 0, none⟩) 1 1, .int .i64 0, .slice (some ⟨vb, 0, none⟩) 1 1] w fun e w' => ∃ g cap, e = .returned (.slice (some ⟨g, 0, none⟩) 2 cap) ∧ 2 ≤ cap ∧ Kd.C k42 w' (some ⟨g, 0, none⟩) [x, y].length [x, y] ∧ Below w.heap.size w w' := by
  obtain ⟨i0, hi0, hz0, hzs, hzb⟩ := info_parts infoO6
  have hbw : b < w.heap.size := blk_lt hb
  have hvw : vb < w.heap.size := blk_lt hv
  have hsz : (Try.prog.info? 42).map (·.size) = some 2 := by rw [hi0]; simp [hzs]
  obtain ⟨G, hG⟩ : ∃ G, G = grownCap w 2 1 42 := ⟨_, rfl⟩
  have hGn : 2 ≤ G := by rw [hG]; exact grownCap_ge w _ _ _
  have hG63 : G ≤ 9223372036854775807 := by
    have := grownCap_le_maxLen w 2 1 42 (by unfold maxLen; omega)
    rw [← hG] at this
    unfold maxLen at this
    omega
  obtain ⟨ROW, hROW⟩ : ∃ ROW : Array Value, ROW = ([] : List Value).toArray ++ Builtin.zeroCells (Value.agg #[.int .u16 0, .string ⟨#[]⟩]).cells 2 ++ Builtin.zeroCells (Value.agg #[.int .u16 0, .string ⟨#[]⟩]).cells (G - 2) := ⟨_, rfl⟩
  have hRl : 4 ≤ ROW.size := by
    rw [hROW]
    first | (simp [Builtin.zeroCells, Value.cells]; done) | (simp [Builtin.zeroCells, Value.cells]; omega)
  have hrz : ∀ ty, (Builtin.append_ #[44, 3] ty #[.slice (some ⟨b, 0, none⟩) 0 1, .int .i64 2]).run Try.prog w = .ok (.slice (some ⟨w.heap.size, 0, none⟩) 2 G) (w.drew.alloc (.cells ROW 42)) := fun ty => by
    have h := Lib.run_append_grow_zeros (P := Try.prog) w 44 3 ty 42 i0 _ .i64 .i64 Try.underlying44 Try.underlying3 hi0 hz0 (some ⟨b, 0, none⟩) 0 1 [] (by rw [hzs]; exact run_firstCells_some w.drew 2 0 ⟨b, 0, none⟩ 0 1 [] rfl (fun j v hj => by simp at hj)) 2 (by omega) (by omega) (by omega) (by omega) (by rw [hzb]; omega) (by rw [hzb]; exact growslice_fits (by omega) (by omega))
    rw [hROW, hG]
    exact h
  obtain ⟨W1, hW1⟩ : ∃ W1, W1 = w.drew.alloc (.cells ROW 42) := ⟨_, rfl⟩
  rw [← hW1] at hrz
  have hN : ∀ j, j < 4 → (W1.cell? ⟨w.heap.size, j, none⟩).isSome = true := fun j hj => by
    rw [hW1, World.cell?_alloc_at (w := w.drew) ROW _ w.heap.size j rfl, Array.getElem?_eq_getElem (by omega)]; rfl
  have hNf : ∀ j, W1.frozen? ⟨w.heap.size, j, none⟩ = false := fun j => by rw [hW1]; exact World.frozen?_alloc_at (w := w.drew) ROW _ w.heap.size j rfl
  have hOb : ∀ j v, w.cell? ⟨b, j, none⟩ = some v → W1.cell? ⟨b, j, none⟩ = some v := fun j v h => by rw [hW1, World.cell?_alloc_past (w := w.drew) _ b j hbw]; exact h
  have hOv : ∀ j v, w.cell? ⟨vb, j, none⟩ = some v → W1.cell? ⟨vb, j, none⟩ = some v := fun j v h => by rw [hW1, World.cell?_alloc_past (w := w.drew) _ vb j hvw]; exact h
  have vs0 := hOv 0 _ ((blk_cell hv 0).trans rfl)
  have vs1 := hOv 1 _ ((blk_cell hv 1).trans rfl)
  have cs0 := hOb 0 _ ((blk_cell hb 0).trans rfl)
  have cs1 := hOb 1 _ ((blk_cell hb 1).trans rfl)
  have hcpA : ∀ (W : World), (∀ x, W.cell? x = W1.cell? x) → (∀ x, W.frozen? x = W1.frozen? x) → ∀ ty dc, (Builtin.copy_ #[44, 44] ty #[.slice (some ⟨w.heap.size, 0, none⟩) 2 dc, .slice (some ⟨vb, 0, none⟩) 1 1]).run Try.prog W = .ok (goInt 1) (W.setCells w.heap.size 0 [.int .u16 x.f0, .string x.f1]) := fun W hWc hWf ty dc =>
    run_copy2 W _ _ ty 42 w.heap.size 0 2 dc ⟨vb, 0, none⟩ 1 1 [.int .u16 x.f0, .string x.f1] Try.underlying44 hsz rfl
      (fun j v hj => by
        rw [Addr.add_lit, hWc]
        match j, hj with
        | 0, hj => obtain rfl := Option.some.inj hj; exact vs0
        | 1, hj => obtain rfl := Option.some.inj hj; exact vs1)
      (fun j hj => by rw [hWc]; exact hN _ (by simp at hj; omega)) (fun j hj => by rw [hWf]; exact hNf _) (by simp [Value.oneCell'])
  have hbN : b ≠ w.heap.size := by omega
  have hcpB : ∀ (W : World), (∀ z, W.cell? z = (W1.setCells w.heap.size 0 [.int .u16 x.f0, .string x.f1]).cell? z) → (∀ z, W.frozen? z = (W1.setCells w.heap.size 0 [.int .u16 x.f0, .string x.f1]).frozen? z) → ∀ ty dc sc, (Builtin.copy_ #[44, 44] ty #[.slice (some ⟨w.heap.size, 2, none⟩) 1 dc, .slice (some ⟨b, 0, none⟩) 1 sc]).run Try.prog W = .ok (goInt 1) (W.setCells w.heap.size 2 [.int .u16 y.f0, .string y.f1]) := fun W hWc hWf ty dc sc =>
    run_copy2 W _ _ ty 42 w.heap.size 2 1 dc ⟨b, 0, none⟩ 1 sc [.int .u16 y.f0, .string y.f1] Try.underlying44 hsz rfl
      (fun j v hj => by
        rw [Addr.add_lit, hWc, World.cell?_setCells_out _ _ _ _ _ (fun h _ => absurd h hbN)]
        match j, hj with
        | 0, hj => obtain rfl := Option.some.inj hj; exact cs0
        | 1, hj => obtain rfl := Option.some.inj hj; exact cs1)
      (fun j hj => by rw [hWc]; exact isSome_setCells _ _ _ _ (fun t ht => by rw [Nat.zero_add]; exact hN _ (by simp at ht; omega)) _ (hN _ (by simp at hj; omega)))
      (fun j hj => by rw [hWf, World.frozen?_setCells]; exact hNf _) (by simp [Value.oneCell'])
  have hfin : ∀ (W : World), (∀ z, W.cell? z = (W1.setCells w.heap.size 0 [.int .u16 x.f0, .string x.f1]).cell? z) → Kd.C k42 (W.setCells w.heap.size 2 [.int .u16 y.f0, .string y.f1]) (some ⟨w.heap.size, 0, none⟩) [x, y].length [x, y] := fun W hWc => by
    have hin : ∀ j, j < 4 → (W.cell? ⟨w.heap.size, j, none⟩).isSome = true := fun j hj => by rw [hWc]; exact isSome_setCells _ _ _ _ (fun t ht => by rw [Nat.zero_add]; exact hN _ (by simp at ht; omega)) _ (hN _ hj)
    refine k42_two x y ?_ ?_ ?_ ?_
    · rw [World.cell?_setCells_out _ _ _ _ _ (fun _ h => by first | (simp at h ⊢; done) | (simp at h ⊢; omega)), hWc]
      exact World.cell?_setCells_in w.heap.size [.int .u16 x.f0, .string x.f1] 0 W1 (fun j hj => by rw [Nat.zero_add]; exact hN _ (by simp at hj; omega)) 0 (by simp)
    · rw [World.cell?_setCells_out _ _ _ _ _ (fun _ h => by first | (simp at h ⊢; done) | (simp at h ⊢; omega)), hWc]
      exact World.cell?_setCells_in w.heap.size [.int .u16 x.f0, .string x.f1] 0 W1 (fun j hj => by rw [Nat.zero_add]; exact hN _ (by simp at hj; omega)) 1 (by simp)
    · exact World.cell?_setCells_in w.heap.size [.int .u16 y.f0, .string y.f1] 2 W (fun j hj => hin _ (by simp at hj; omega)) 0 (by simp)
    · exact World.cell?_setCells_in w.heap.size [.int .u16 y.f0, .string y.f1] 2 W (fun j hj => hin _ (by simp at hj; omega)) 1 (by simp)
  have hG0 : ¬ (G = 0) := by omega
  have hG1 : ¬ (G = 1) := by omega
  subst hW1
  have HF := Aside0.mk hfin
  have HRZ := Aside0.mk hrz
  have HA := Aside0.mk hcpA
  have HBc := Aside0.mk hcpB
  have HGN := Aside0.mk hGn
  have hw1 : IntKind.i64.wrap 1 = 1 := by rw [IntKind.wrap_i64]; rfl
  have hGn2 : (2 : Int) ≤ (G : Int) := by omega
  have hGn1 : 1 ≤ G := by omega
  have hGn3 : (1 : Int) ≤ (G : Int) := by omega
  clear hfin hrz hcpA hcpB hROW hG hRl hN hNf hOb hOv vs0 vs1 cs0 cs1 hb hv
  go_enter Try.func24, Try.ntmps24
  have hA1 := HA.out ((w.alloc (.cells ROW 42)).drew) (fun _ => rfl) (fun _ => rfl) 3 G
  have hB1 := HBc.out (((w.alloc (.cells ROW 42)).drew.setCells w.heap.size 0 [.int .u16 x.f0, .string x.f1]).drew) (fun _ => rfl) (fun _ => rfl) 3 (G - 1) 1
  go_wp2_with (at_builtin; refine Lib.wpList_append_run _ rfl _ _ _ _ rfl _ _ rfl rfl _ _ (HRZ.out _) ?_)
  go_region
  go_wp2
  go_ret
  exact ⟨w.heap.size, G, rfl, HGN.out, HF.out _ (fun _ => rfl), ((((((below_alloc (Below.refl w.heap.size w) _).drew.setCell (p := ⟨w.heap.size, 0, none⟩) (Nat.le_refl _) _).setCell (p := ⟨w.heap.size, 1, none⟩) (Nat.le_refl _) _).drew).setCell (p := ⟨w.heap.size, 2, none⟩) (Nat.le_refl _) _).setCell (p := ⟨w.heap.size, 3, none⟩) (Nat.le_refl _) _)⟩
/-! ### relay.Wrap: the region that draws its order: by hand -/
def wrapV (kind : Int) (x : S39) (Bx : Nat) (a b em : ByteArray) : Nat → Value → World → Prop
  | 0, v, _ => v = .int .i64 kind
  | 1, v, _ => v = .int .u8 (kind % 256)
  | 2, v, _ => v = .pointer (some ⟨Bx, 0, none⟩)
  | 3, v, _ => v = .int .i64 x.f0
  | 4, v, _ => v = .int .u8 (x.f0 % 256)
  | 5, v, w => ∃ g, v = .slice (some ⟨g, 0, none⟩) 2 2 ∧ w.heap[g]? = some (.cells #[.int .u8 (kind % 256), .int .u8 (x.f0 % 256)] 5 (0, 0))
  | 6, v, _ => v = .string (strOfNums [kind % 256, x.f0 % 256])
  | 7, v, _ => v = .pointer (some ⟨Bx, 1, none⟩)
  | 8, v, _ => v = .agg #[.int .u64 x.f1.f0, .int .u64 x.f1.f1]
  | 9, v, _ => v = .string a
  | 10, v, _ => v = .string (strOfNums [kind % 256, x.f0 % 256] ++ a)
  | 11, v, _ => v = .pointer (some ⟨Bx, 3, none⟩)
  | 12, v, _ => v = .agg #[.int .u64 x.f2.f0, .int .u64 x.f2.f1]
  | 13, v, _ => v = .string b
  | 14, v, _ => v = .string ((strOfNums [kind % 256, x.f0 % 256] ++ a) ++ b)
  | 15, v, _ => v = .string em
  | 16, v, _ => v = .string (((strOfNums [kind % 256, x.f0 % 256] ++ a) ++ b) ++ em)
  | _, _, _ => True
theorem nums_two (x y : Int) : (strOfNums [x, y]).size = 2 := rfl
set_option maxHeartbeats 4000000 in
set_option maxRecDepth 100000 in
theorem wrap_region (ops : Array Oper) (hops : ops = opsOf Try.f13 16) (l n id : Nat) (Q : Exit → Act → World → Prop) (act : Act) (w : World) (hsz : act.tmps.size = 69) (kind : Int) (x : S39) (B0 B1 Bx : Nat) (a b em inner : ByteArray)
    (h3 : act.eval (.tmp 3) = .pointer (some ⟨B0, 0, none⟩)) (h5 : act.eval (.tmp 5) = .pointer (some ⟨B1, 0, none⟩)) (h10 : act.eval (.tmp 10) = .pointer (some ⟨Bx, 0, none⟩)) (h12 : act.eval (.tmp 12) = .string em)
    (b0 : w.heap[B0]? = some (.cells #[.int .i64 kind] 3 (0, 0))) (b1 : w.heap[B1]? = some (.cells #[.string inner] 9 (0, 0))) (bx : w.heap[Bx]? = some (.cells #[.int .i64 x.f0, .int .u64 x.f1.f0, .int .u64 x.f1.f1, .int .u64 x.f2.f0, .int .u64 x.f2.f1, .string x.f3, .bool x.f4] 39 (0, 0)))
    (ha : octet_PutAddr.f 300 x.f1.f0 x.f1.f1 = some a) (hb : octet_PutAddr.f 300 x.f2.f0 x.f2.f1 = some b) (hz : a.size + b.size + em.size ≤ 1000000000)
    (hK : ∀ a' W, a'.defers = act.defers → Below w.heap.size w W → ∀ W2, W2 = W.setCell ⟨B1, 0, none⟩ (.string (((strOfNums [kind % 256, x.f0 % 256] ++ a) ++ b) ++ em)) → Q .normal a' W2) :
    (Code.region id ops true).wpIn { Fence.wide with round := some l } n Try.prog Q act w := by
  subst hops
  refine XReg.region_run (by kernel_rfl) 17 (by rw [hsz]; kernel_rfl) (wrapV kind x Bx a b em)
    (fun w' => Below w.heap.size w w') ?_ (fun w1 w2 h1 h2 => below_step h1 h2) ((Below.refl _ w).drew) ?_ ?_
  · intro i v w1 w2 hv hb
    match i, hv with
    | 5, ⟨g, e, hg⟩ => exact ⟨g, e, blk_below hg hb⟩
    | 0, hv | 1, hv | 2, hv | 3, hv | 4, hv | 6, hv | 7, hv | 8, hv | 9, hv | 10, hv | 11, hv | 12, hv | 13, hv | 14, hv | 15, hv | 16, hv => exact hv
    | _ + 17, _ => trivial
  · intro i o a' w' hi ho hB hr hd
    have c0 := blk_below b0 hB
    have c1 := blk_below b1 hB
    have cx := blk_below bx hB
    have hcases : i = 0 ∨ i = 1 ∨ i = 2 ∨ i = 3 ∨ i = 4 ∨ i = 5 ∨ i = 6 ∨ i = 7 ∨ i = 8 ∨ i = 9 ∨ i = 10 ∨ i = 11 ∨ i = 12 ∨ i = 13 ∨ i = 14 ∨ i = 15 ∨ i = 16 := by omega
    rcases hcases with rfl | rfl | rfl | rfl | rfl | rfl | rfl | rfl | rfl | rfl | rfl | rfl | rfl | rfl | rfl | rfl | rfl
    · obtain ⟨hop, hdst⟩ := XReg.op_is (x := .load 3 (.tmp 3)) (d := some 48) ho (by kernel_rfl)
      have e3 := (hr 3 (by kernel_rfl)).trans h3
      have hc : w'.cell? ⟨B0, 0, none⟩ = some (.int .i64 kind) := (blk_cell c0 0).trans rfl
      have hu0 := Try.underlying3
      refine XReg.val_ (v := .int .i64 kind) (w1 := w') (by rw [hop]; intro c h; cases h) (by simp [Oper.about, hop]) ?_ ⟨_, rfl, Below.refl _ _, rfl⟩
      unfold execOp
      rw [hop]
      clear hr hd hB
      generalize a'.eval = ρ at e3 ⊢
      go_simp
    · obtain ⟨hop, hdst⟩ := XReg.op_is (x := .convert 3 5 (.tmp 48)) (d := some 49) ho (by kernel_rfl)
      have e0 : a'.eval (.tmp 48) = .int .i64 kind := hd 0 48 (by kernel_rfl) (by omega)
      have hu0 := Try.underlying3
      have hu1 := Try.underlying5
      refine XReg.val_ (v := .int .u8 (kind % 256)) (w1 := w') (by rw [hop]; intro c h; cases h) (by simp [Oper.about, hop]) ?_ ⟨_, rfl, Below.refl _ _, rfl⟩
      unfold execOp
      rw [hop]
      clear hr hd hB
      generalize a'.eval = ρ at e0 ⊢
      go_simp
      exact IntKind.wrap_u8' _
    · obtain ⟨hop, hdst⟩ := XReg.op_is (x := .fieldAddr 39 (.tmp 10) 0) (d := some 50) ho (by kernel_rfl)
      have e0 := (hr 10 (by kernel_rfl)).trans h10
      have hu0 := Try.underlying39
      refine XReg.val_ (v := .pointer (some ⟨Bx, 0, none⟩)) (w1 := w') (by rw [hop]; intro c h; cases h) (by simp [Oper.about, hop]) ?_ ⟨_, rfl, Below.refl _ _, rfl⟩
      unfold execOp
      rw [hop]
      clear hr hd hB
      generalize a'.eval = ρ at e0 ⊢
      go_simp
    · obtain ⟨hop, hdst⟩ := XReg.op_is (x := .load 3 (.tmp 50)) (d := some 51) ho (by kernel_rfl)
      have e0 : a'.eval (.tmp 50) = .pointer (some ⟨Bx, 0, none⟩) := hd 2 50 (by kernel_rfl) (by omega)
      have hc : w'.cell? ⟨Bx, 0, none⟩ = some (.int .i64 x.f0) := (blk_cell cx 0).trans rfl
      have hu0 := Try.underlying3
      refine XReg.val_ (v := .int .i64 x.f0) (w1 := w') (by rw [hop]; intro c h; cases h) (by simp [Oper.about, hop]) ?_ ⟨_, rfl, Below.refl _ _, rfl⟩
      unfold execOp
      rw [hop]
      clear hr hd hB
      generalize a'.eval = ρ at e0 ⊢
      go_simp
    · obtain ⟨hop, hdst⟩ := XReg.op_is (x := .convert 3 5 (.tmp 51)) (d := some 52) ho (by kernel_rfl)
      have e0 : a'.eval (.tmp 51) = .int .i64 x.f0 := hd 3 51 (by kernel_rfl) (by omega)
      have hu0 := Try.underlying3
      have hu1 := Try.underlying5
      refine XReg.val_ (v := .int .u8 (x.f0 % 256)) (w1 := w') (by rw [hop]; intro c h; cases h) (by simp [Oper.about, hop]) ?_ ⟨_, rfl, Below.refl _ _, rfl⟩
      unfold execOp
      rw [hop]
      clear hr hd hB
      generalize a'.eval = ρ at e0 ⊢
      go_simp
      exact IntKind.wrap_u8' _
    · obtain ⟨hop, hdst⟩ := XReg.op_is (x := .buildSlice 56 2 #[(0, .tmp 49), (1, .tmp 52)]) (d := some 53) ho (by kernel_rfl)
      have e0 : a'.eval (.tmp 49) = .int .u8 (kind % 256) := hd 1 49 (by kernel_rfl) (by omega)
      have e1 : a'.eval (.tmp 52) = .int .u8 (x.f0 % 256) := hd 4 52 (by kernel_rfl) (by omega)
      have hu0 := Try.underlying56
      have hu1 := Try.underlying5
      refine XReg.val_ (v := .slice (some ⟨w'.heap.size, 0, none⟩) 2 2) (w1 := w'.alloc (.cells #[.int .u8 (kind % 256), .int .u8 (x.f0 % 256)] 5)) (by rw [hop]; intro c h; cases h) (by simp [Oper.about, hop]) ?_ ⟨_, rfl, below_alloc (Below.refl _ _) _, ⟨_, rfl, blk_new w' _⟩⟩
      unfold execOp
      rw [hop]
      clear hr hd hB
      generalize a'.eval = ρ at e0 e1 ⊢
      go_simp
    · obtain ⟨hop, hdst⟩ := XReg.op_is (x := .convert 56 9 (.tmp 53)) (d := some 54) ho (by kernel_rfl)
      obtain ⟨g, e0, hg⟩ : ∃ g, a'.eval (.tmp 53) = .slice (some ⟨g, 0, none⟩) 2 2 ∧ w'.heap[g]? = some (.cells #[.int .u8 (kind % 256), .int .u8 (x.f0 % 256)] 5 (0, 0)) := hd 5 53 (by kernel_rfl) (by omega)
      have hcv := run_convert_bytes_arg (P := Try.prog) w' 56 5 Try.underlying56 Try.underlying5 g 0 2 2 [kind % 256, x.f0 % 256] rfl (fun i hi => by
        rw [Nat.zero_add]
        match i, hi with
        | 0, _ => exact (blk_cell hg 0).trans rfl
        | 1, _ => exact (blk_cell hg 1).trans rfl) 9 Try.underlying9
      refine XReg.val_ (v := .string (strOfNums [kind % 256, x.f0 % 256])) (w1 := w') (by rw [hop]; intro c h; cases h) (by simp [Oper.about, hop]) ?_ ⟨_, rfl, Below.refl _ _, rfl⟩
      unfold execOp
      rw [hop]
      clear hr hd hB
      generalize a'.eval = ρ at e0 ⊢
      simp [e0, hcv, Result.andThen]
    · obtain ⟨hop, hdst⟩ := XReg.op_is (x := .fieldAddr 39 (.tmp 10) 1) (d := some 55) ho (by kernel_rfl)
      have e0 := (hr 10 (by kernel_rfl)).trans h10
      have hu0 := Try.underlying39
      refine XReg.val_ (v := .pointer (some ⟨Bx, 1, none⟩)) (w1 := w') (by rw [hop]; intro c h; cases h) (by simp [Oper.about, hop]) ?_ ⟨_, rfl, Below.refl _ _, rfl⟩
      unfold execOp
      rw [hop]
      clear hr hd hB
      generalize a'.eval = ρ at e0 ⊢
      go_simp
    · obtain ⟨hop, hdst⟩ := XReg.op_is (x := .load 33 (.tmp 55)) (d := some 56) ho (by kernel_rfl)
      have e0 : a'.eval (.tmp 55) = .pointer (some ⟨Bx, 1, none⟩) := hd 7 55 (by kernel_rfl) (by omega)
      have hc1 : w'.cell? ⟨Bx, 1, none⟩ = some (.int .u64 x.f1.f0) := (blk_cell cx 1).trans rfl
      have hc2 : w'.cell? ⟨Bx, 2, none⟩ = some (.int .u64 x.f1.f1) := (blk_cell cx 2).trans rfl
      have hu0 := Try.underlying33
      have hu1 := Try.underlying31
      refine XReg.val_ (v := .agg #[.int .u64 x.f1.f0, .int .u64 x.f1.f1]) (w1 := w') (by rw [hop]; intro c h; cases h) (by simp [Oper.about, hop]) ?_ ⟨_, rfl, Below.refl _ _, rfl⟩
      unfold execOp
      rw [hop]
      clear hr hd hB
      generalize a'.eval = ρ at e0 ⊢
      go_simp
    · obtain ⟨hop, hdst⟩ := XReg.op_is (x := .call { callee := .value (.func 25), args := #[.tmp 56], argTypes := #[33] }) (d := some 57) ho (by kernel_rfl)
      have e0 : a'.eval (.tmp 56) = .agg #[.int .u64 x.f1.f0, .int .u64 x.f1.f1] := hd 8 56 (by kernel_rfl) (by omega)
      refine XReg.call_ (ro := some l) Try.func25 (by kernel_rfl) rfl #[.agg #[.int .u64 x.f1.f0, .int .u64 x.f1.f1]] hop (by simp [e0]) ?_
      refine (octet_PutAddr.calls 300 _ _ a w' ha).mono ?_
      rintro e w2 ⟨rfl, hb2⟩
      exact ⟨_, rfl, _, rfl, hb2, rfl⟩
    · obtain ⟨hop, hdst⟩ := XReg.op_is (x := .binOp .add 9 (.tmp 54) (.tmp 57) 9) (d := some 58) ho (by kernel_rfl)
      have e0 : a'.eval (.tmp 54) = .string (strOfNums [kind % 256, x.f0 % 256]) := hd 6 54 (by kernel_rfl) (by omega)
      have e1 : a'.eval (.tmp 57) = .string a := hd 9 57 (by kernel_rfl) (by omega)
      have hu0 := Try.underlying9
      refine XReg.val_ (v := .string (strOfNums [kind % 256, x.f0 % 256] ++ a)) (w1 := w') (by rw [hop]; intro c h; cases h) (by simp [Oper.about, hop]) ?_ ⟨_, rfl, Below.refl _ _, rfl⟩
      unfold execOp
      rw [hop]
      clear hr hd hB
      have hs : (strOfNums [kind % 256, x.f0 % 256]).size + a.size ≤ 9223372036854775807 := by rw [nums_two]; omega
      generalize a'.eval = ρ at e0 e1 ⊢
      go_simp
    · obtain ⟨hop, hdst⟩ := XReg.op_is (x := .fieldAddr 39 (.tmp 10) 2) (d := some 59) ho (by kernel_rfl)
      have e0 := (hr 10 (by kernel_rfl)).trans h10
      have hu0 := Try.underlying39
      refine XReg.val_ (v := .pointer (some ⟨Bx, 3, none⟩)) (w1 := w') (by rw [hop]; intro c h; cases h) (by simp [Oper.about, hop]) ?_ ⟨_, rfl, Below.refl _ _, rfl⟩
      unfold execOp
      rw [hop]
      clear hr hd hB
      generalize a'.eval = ρ at e0 ⊢
      go_simp
    · obtain ⟨hop, hdst⟩ := XReg.op_is (x := .load 33 (.tmp 59)) (d := some 60) ho (by kernel_rfl)
      have e0 : a'.eval (.tmp 59) = .pointer (some ⟨Bx, 3, none⟩) := hd 11 59 (by kernel_rfl) (by omega)
      have hc1 : w'.cell? ⟨Bx, 3, none⟩ = some (.int .u64 x.f2.f0) := (blk_cell cx 3).trans rfl
      have hc2 : w'.cell? ⟨Bx, 4, none⟩ = some (.int .u64 x.f2.f1) := (blk_cell cx 4).trans rfl
      have hu0 := Try.underlying33
      have hu1 := Try.underlying31
      refine XReg.val_ (v := .agg #[.int .u64 x.f2.f0, .int .u64 x.f2.f1]) (w1 := w') (by rw [hop]; intro c h; cases h) (by simp [Oper.about, hop]) ?_ ⟨_, rfl, Below.refl _ _, rfl⟩
      unfold execOp
      rw [hop]
      clear hr hd hB
      generalize a'.eval = ρ at e0 ⊢
      go_simp
    · obtain ⟨hop, hdst⟩ := XReg.op_is (x := .call { callee := .value (.func 25), args := #[.tmp 60], argTypes := #[33] }) (d := some 61) ho (by kernel_rfl)
      have e0 : a'.eval (.tmp 60) = .agg #[.int .u64 x.f2.f0, .int .u64 x.f2.f1] := hd 12 60 (by kernel_rfl) (by omega)
      refine XReg.call_ (ro := some l) Try.func25 (by kernel_rfl) rfl #[.agg #[.int .u64 x.f2.f0, .int .u64 x.f2.f1]] hop (by simp [e0]) ?_
      refine (octet_PutAddr.calls 300 _ _ b w' hb).mono ?_
      rintro e w2 ⟨rfl, hb2⟩
      exact ⟨_, rfl, _, rfl, hb2, rfl⟩
    · obtain ⟨hop, hdst⟩ := XReg.op_is (x := .binOp .add 9 (.tmp 58) (.tmp 61) 9) (d := some 62) ho (by kernel_rfl)
      have e0 : a'.eval (.tmp 58) = .string (strOfNums [kind % 256, x.f0 % 256] ++ a) := hd 10 58 (by kernel_rfl) (by omega)
      have e1 : a'.eval (.tmp 61) = .string b := hd 13 61 (by kernel_rfl) (by omega)
      have hu0 := Try.underlying9
      refine XReg.val_ (v := .string ((strOfNums [kind % 256, x.f0 % 256] ++ a) ++ b)) (w1 := w') (by rw [hop]; intro c h; cases h) (by simp [Oper.about, hop]) ?_ ⟨_, rfl, Below.refl _ _, rfl⟩
      unfold execOp
      rw [hop]
      clear hr hd hB
      have hs : (strOfNums [kind % 256, x.f0 % 256] ++ a).size + b.size ≤ 9223372036854775807 := by rw [ByteArray.size_append, nums_two]; omega
      generalize a'.eval = ρ at e0 e1 ⊢
      go_simp
      rw [nums_two]; omega
    · obtain ⟨hop, hdst⟩ := XReg.op_is (x := .move (.tmp 12)) (d := some 63) ho (by kernel_rfl)
      have e0 := (hr 12 (by kernel_rfl)).trans h12
      refine XReg.val_ (v := .string em) (w1 := w') (by rw [hop]; intro c h; cases h) (by simp [Oper.about, hop]) ?_ ⟨_, rfl, Below.refl _ _, rfl⟩
      unfold execOp
      rw [hop]
      clear hr hd hB
      generalize a'.eval = ρ at e0 ⊢
      go_simp
    · obtain ⟨hop, hdst⟩ := XReg.op_is (x := .binOp .add 9 (.tmp 62) (.tmp 63) 9) (d := some 64) ho (by kernel_rfl)
      have e0 : a'.eval (.tmp 62) = .string ((strOfNums [kind % 256, x.f0 % 256] ++ a) ++ b) := hd 14 62 (by kernel_rfl) (by omega)
      have e1 : a'.eval (.tmp 63) = .string em := hd 15 63 (by kernel_rfl) (by omega)
      have hu0 := Try.underlying9
      refine XReg.val_ (v := .string (((strOfNums [kind % 256, x.f0 % 256] ++ a) ++ b) ++ em)) (w1 := w') (by rw [hop]; intro c h; cases h) (by simp [Oper.about, hop]) ?_ ⟨_, rfl, Below.refl _ _, rfl⟩
      unfold execOp
      rw [hop]
      clear hr hd hB
      have hs : ((strOfNums [kind % 256, x.f0 % 256] ++ a) ++ b).size + em.size ≤ 9223372036854775807 := by rw [ByteArray.size_append, ByteArray.size_append, nums_two]; omega
      generalize a'.eval = ρ at e0 e1 ⊢
      go_simp
      rw [nums_two]; omega
  · intro o a' w' ho hB hdf hsz' hr hd
    have c1 := blk_below b1 hB
    obtain ⟨hop, hdst⟩ := XReg.op_is (x := .store 9 (.tmp 5) (.tmp 64)) (d := none) ho (by kernel_rfl)
    have e5 := (hr 5 (by kernel_rfl)).trans h5
    have e0 : a'.eval (.tmp 64) = .string (((strOfNums [kind % 256, x.f0 % 256] ++ a) ++ b) ++ em) := hd 16 64 (by kernel_rfl) (by omega)
    have hc : w'.cell? ⟨B1, 0, none⟩ = some (.string inner) := (blk_cell c1 0).trans rfl
    have hf := blk_frozen c1 0
    have hu0 := Try.underlying9
    refine XReg.skip_ (w1 := w'.setCell ⟨B1, 0, none⟩ (.string (((strOfNums [kind % 256, x.f0 % 256] ++ a) ++ b) ++ em))) (by rw [hop]; intro c h; cases h) (by simp [Oper.about, hop]) ?_ (hK _ w' (by rw [hdst]; exact hdf) hB _ rfl)
    unfold execOp
    rw [hop]
    clear hr hd hB
    generalize a'.eval = ρ at e5 e0 ⊢
    go_simp
/-! ### relay_Wrap: function 13: by hand -/
def relay_Wrap.o (r : S39) (inner : ByteArray) : List S42 := if r.f4 = true then [⟨18, r.f3⟩, ⟨9, inner⟩] else [⟨9, inner⟩]
def relay_Wrap.em (r : S39) (inner : ByteArray) : ByteArray × Int := (opt6_Emit.f (relay_Wrap.o r inner)).getD ((⟨#[]⟩ : ByteArray), 0)
def relay_Wrap.ad (h l : Int) : ByteArray := (octet_PutAddr.f 300 h l).getD (⟨#[]⟩ : ByteArray)
def relay_Wrap.stp (kind : Int) (r : S39) (inner : ByteArray) : ByteArray := ((strOfNums [kind % 256, r.f0 % 256] ++ relay_Wrap.ad r.f1.f0 r.f1.f1) ++ relay_Wrap.ad r.f2.f0 r.f2.f1) ++ (relay_Wrap.em r inner).1
def relay_Wrap.l (kind : Int) : List S39 → ByteArray → ByteArray × Int
  | [], inner => (inner, 0)
  | r :: l, inner => if (relay_Wrap.em r inner).2 = 0 then relay_Wrap.l kind l (relay_Wrap.stp kind r inner) else ((⟨#[]⟩ : ByteArray), 6)
def relay_Wrap.g (kind : Int) (l1 : List S39) (inner : ByteArray) : ByteArray × Int :=
  if kind = 12 ∨ kind = 13 then (if 32 < l1.length then ((⟨#[]⟩ : ByteArray), 170) else if l1.any wbad = true then ((⟨#[]⟩ : ByteArray), 171) else
    if (relay_Wrap.l kind l1.reverse inner).2 = 0 then (if 65507 < (relay_Wrap.l kind l1.reverse inner).1.size then ((⟨#[]⟩ : ByteArray), 6) else relay_Wrap.l kind l1.reverse inner) else ((⟨#[]⟩ : ByteArray), 6)) else ((⟨#[]⟩ : ByteArray), 1)
def relay_Wrap.f (kind : Int) (l1 : List S39) (inner : ByteArray) : Option (ByteArray × Int) := some (relay_Wrap.g kind l1 inner)
theorem relay_Wrap.em_eq (r : S39) (inner : ByteArray) : opt6_Emit.f (relay_Wrap.o r inner) = some (relay_Wrap.em r inner) ∧ (relay_Wrap.em r inner).1.size ≤ 140000 := by
  have hl : (relay_Wrap.o r inner).length ≤ 2 := by unfold relay_Wrap.o; split <;> simp
  obtain ⟨q, hq, hz⟩ := emit_some (relay_Wrap.o r inner) (⟨#[]⟩ : ByteArray) (by show 0 + _ ≤ _; omega)
  have hf : opt6_Emit.f (relay_Wrap.o r inner) = some q := by
    unfold opt6_Emit.f
    rw [if_neg (by omega), hq]
  unfold relay_Wrap.em
  rw [hf]
  exact ⟨rfl, by show q.1.size ≤ _; have : (⟨#[]⟩ : ByteArray).size = 0 := rfl; omega⟩
theorem relay_Wrap.ad_eq (h l : Int) : octet_PutAddr.f 300 h l = some (relay_Wrap.ad h l) ∧ (relay_Wrap.ad h l).size = 16 := by
  obtain ⟨r, hr, h1⟩ := putAddr_some h l
  unfold relay_Wrap.ad
  rw [hr]
  exact ⟨rfl, h1⟩
theorem relay_Wrap.l_append (kind : Int) : ∀ (p q : List S39) (inner : ByteArray), relay_Wrap.l kind (p ++ q) inner = if (relay_Wrap.l kind p inner).2 = 0 then relay_Wrap.l kind q (relay_Wrap.l kind p inner).1 else ((⟨#[]⟩ : ByteArray), 6)
  | [], q, inner => by rw [List.nil_append, relay_Wrap.l, if_pos rfl]
  | r :: p, q, inner => by
    rw [List.cons_append, relay_Wrap.l, relay_Wrap.l]
    by_cases h : (relay_Wrap.em r inner).2 = 0
    · rw [if_pos h, if_pos h]; exact relay_Wrap.l_append kind p q _
    · rw [if_neg h, if_neg h, if_neg (by decide)]
section
open Go.Shelf
attribute [local go_sem] Oper.semAt_some
theorem relay_Wrap.ends (w W : World) (s : ByteArray) (e : Int) {tmps : Array Value} (hB : Below w.heap.size w W) (b2 : W.heap[w.heap.size + 1 + 1]? = some (.cells #[.string s] 9 (0, 0))) (b3 : W.heap[w.heap.size + 1 + 1 + 1]? = some (.cells #[.int .i64 e] 24 (0, 0)))
    (h2 : tmps[6]? = some (.pointer (some ⟨w.heap.size + 1 + 1, 0, none⟩))) (h3 : tmps[7]? = some (.pointer (some ⟨w.heap.size + 1 + 1 + 1, 0, none⟩))) :
    ∃ v, (results Try.f13 tmps).run Try.prog W = .ok v W ∧ (Ending.returned v = .returned (.tuple #[.string s, .int .i64 e]) ∧ Below w.heap.size w W) := by
  have c2 : W.cell? ⟨w.heap.size + 1 + 1, 0, none⟩ = some (.string s) := (blk_cell b2 0).trans rfl
  have c3 : W.cell? ⟨w.heap.size + 1 + 1 + 1, 0, none⟩ = some (.int .i64 e) := (blk_cell b3 0).trans rfl
  have hu9 := Try.underlying9
  have hu24 := Try.underlying24
  refine ⟨_, ?_, rfl, hB⟩
  have hfr : Try.f13.results = #[.cell 6 9, .cell 7 24] := by kernel_rfl
  have hp2 : tmps[6]?.getD undef = .pointer (some ⟨w.heap.size + 1 + 1, 0, none⟩) := by rw [h2]; rfl
  have hp3 : tmps[7]?.getD undef = .pointer (some ⟨w.heap.size + 1 + 1 + 1, 0, none⟩) := by rw [h3]; rfl
  have r2 : (loadVar 9 ⟨w.heap.size + 1 + 1, 0, none⟩).run Try.prog W = .ok (.string s) W := by go_simp
  have r3 : (loadVar 24 ⟨w.heap.size + 1 + 1 + 1, 0, none⟩).run Try.prog W = .ok (.int .i64 e) W := by go_simp
  simp [results, hfr, hp2, hp3, asAddr, r2, r3, Result.andThen]
set_option maxRecDepth 100000 in
set_option maxHeartbeats 4000000 in
theorem relay_Wrap.in_ (a0 : Int) (A1 : Option Addr) (c1 : Nat) (l1 : List S39) (a2 : ByteArray) (r1 : ByteArray) (r2 : Int) (w : World) (hr1 : Kd.C k39 w A1 l1.length l1) (h : relay_Wrap.g a0 l1 a2 = (r1, r2)) :
    CallsIn Fence.wide 9 Try.prog 13 #[.int .i64 a0, .slice A1 l1.length c1, .string a2] w fun e w' => e = .returned (.tuple #[.string r1, .int .i64 r2]) ∧ Below w.heap.size w w' := by
  have HR := Aside0.mk hr1
  have HH := Aside0.mk h
  have hu39 := Try.underlying39
  have hu42 := Try.underlying42
  have hi39 : (Try.prog.info? 39).map (·.size) = some 7 := by kernel_rfl
  clear hr1 h
  have hik : ∃ b, relay_isKind.f a0 = some b ∧ (b = true ↔ (a0 = 12 ∨ a0 = 13)) := by
    unfold relay_isKind.f
    by_cases h : a0 = 12
    · rw [if_pos h]; exact ⟨true, rfl, by simp [h]⟩
    · rw [if_neg h]; exact ⟨_, rfl, by simp [h]⟩
  obtain ⟨bk, hbk, hbe⟩ := hik
  obtain ⟨W4, hW4⟩ : ∃ W4, W4 = ((((w.alloc (.cells #[.int .i64 a0] 3)).alloc (.cells #[.string a2] 9)).alloc (.cells #[.string (⟨#[]⟩ : ByteArray)] 9)).alloc (.cells #[.int .i64 0] 24)) := ⟨_, rfl⟩
  have f0 : W4.heap[w.heap.size]? = some (.cells #[.int .i64 a0] 3 (0, 0)) := by rw [hW4]; exact blk_alloc (blk_alloc (blk_alloc (blk_new w _) _) _) _
  have f1 : W4.heap[w.heap.size + 1]? = some (.cells #[.string a2] 9 (0, 0)) := by rw [hW4]; have := blk_new (w.alloc (.cells #[.int .i64 a0] 3)) (.cells #[.string a2] 9); rw [World.size_alloc] at this; exact blk_alloc (blk_alloc this _) _
  have f2 : W4.heap[w.heap.size + 1 + 1]? = some (.cells #[.string (⟨#[]⟩ : ByteArray)] 9 (0, 0)) := by rw [hW4]; have := blk_new ((w.alloc (.cells #[.int .i64 a0] 3)).alloc (.cells #[.string a2] 9)) (.cells #[.string (⟨#[]⟩ : ByteArray)] 9); rw [World.size_alloc, World.size_alloc] at this; exact blk_alloc this _
  have f3 : W4.heap[w.heap.size + 1 + 1 + 1]? = some (.cells #[.int .i64 0] 24 (0, 0)) := by rw [hW4]; have := blk_new (((w.alloc (.cells #[.int .i64 a0] 3)).alloc (.cells #[.string a2] 9)).alloc (.cells #[.string (⟨#[]⟩ : ByteArray)] 9)) (.cells #[.int .i64 0] 24); rw [World.size_alloc, World.size_alloc, World.size_alloc] at this; exact this
  have hB4 : Below w.heap.size w W4 := by rw [hW4]; exact below_alloc (below_alloc (below_alloc (below_alloc (Below.refl _ w) _) _) _) _
  have F0 := Aside0.mk f0
  have F1 := Aside0.mk f1
  have F2 := Aside0.mk f2
  have F3 := Aside0.mk f3
  have HB4 := Aside0.mk hB4
  have HW4 := Aside0.mk hW4.symm
  have HBK := Aside0.mk hbk
  clear f0 f1 f2 f3 hB4 hW4 hbk
  by_cases hk : a0 = 12 ∨ a0 = 13
  case neg =>
    obtain rfl : bk = false := by cases bk with
      | false => rfl
      | true => exact absurd (hbe.1 rfl) hk
    unfold relay_Wrap.g at HH
    rw [if_neg hk] at HH
    obtain ⟨rfl, rfl⟩ : (⟨#[]⟩ : ByteArray) = r1 ∧ (1 : Int) = r2 := by have := HH.out; simpa only [Prod.mk.injEq] using this
    clear hbe hk HH
    refine callsIn_of_wp_marks Try.func13 rfl trivial ?_ rfl
    simp only [Try.ntmps13, List.size_toArray, List.length_cons, List.length_nil, Nat.reduceAdd, Nat.reduceSub, Array.replicate_succ, Array.replicate_zero, List.push_toArray, List.append_toArray, List.nil_append, List.cons_append]
    gi_wp2_with (refine ⟨trivial, ?_⟩; gi_at_call 18; rw [HW4.out]; refine (callsIn_wide.2 (relay_isKind.calls a0 false _ HBK.out)).mono ?_; rintro e wa ⟨rfl, hdr⟩; have G0 := Aside0.mk (blk_below F0.out hdr.below); have G1 := Aside0.mk (blk_below F1.out hdr.below); have G2 := Aside0.mk (blk_below F2.out hdr.below); have G3 := Aside0.mk (blk_below F3.out hdr.below); have HBa := Aside0.mk (below_step HB4.out hdr.below); clear hdr; have hc2_ := (blk_cell G2.out 0).trans rfl; have hf2_ := blk_frozen G2.out 0; have hc3_ := (blk_cell G3.out 0).trans rfl; have hf3_ := blk_frozen G3.out 0)
    have q2 := blk_far (blk_put G2.out 0 (.string (⟨#[]⟩ : ByteArray)) rfl) (p := ⟨w.heap.size + 1 + 1 + 1, 0, none⟩) (show w.heap.size + 1 + 1 ≠ w.heap.size + 1 + 1 + 1 by omega) (.int .i64 1)
    have q3 := blk_put (blk_far G3.out (p := ⟨w.heap.size + 1 + 1, 0, none⟩) (show w.heap.size + 1 + 1 + 1 ≠ w.heap.size + 1 + 1 by omega) (.string (⟨#[]⟩ : ByteArray))) 0 (.int .i64 1) rfl
    have qB := below_set (j := 0) (v := .int .i64 1) (below_set (j := 0) (v := .string (⟨#[]⟩ : ByteArray)) HBa.out (show w.heap.size ≤ w.heap.size + 1 + 1 by omega)) (show w.heap.size ≤ w.heap.size + 1 + 1 + 1 by omega)
    exact relay_Wrap.ends w _ _ _ qB q2 q3 rfl rfl
  obtain rfl : bk = true := by cases bk with
    | true => rfl
    | false => exact absurd (hbe.2 hk) (by decide)
  by_cases hl : 32 < l1.length
  case pos =>
    unfold relay_Wrap.g at HH
    rw [if_pos hk, if_pos hl] at HH
    obtain ⟨rfl, rfl⟩ : (⟨#[]⟩ : ByteArray) = r1 ∧ (170 : Int) = r2 := by have := HH.out; simpa only [Prod.mk.injEq] using this
    have hlb : decide ((32 : Int) < (l1.length : Int)) = true := decide_eq_true (by omega)
    have hlb2 : decide (32 < l1.length) = true := decide_eq_true hl
    clear hbe hk HH hl
    refine callsIn_of_wp_marks Try.func13 rfl trivial ?_ rfl
    simp only [Try.ntmps13, List.size_toArray, List.length_cons, List.length_nil, Nat.reduceAdd, Nat.reduceSub, Array.replicate_succ, Array.replicate_zero, List.push_toArray, List.append_toArray, List.nil_append, List.cons_append]
    gi_wp2_with (refine ⟨trivial, ?_⟩; gi_at_call 18; rw [HW4.out]; refine (callsIn_wide.2 (relay_isKind.calls a0 true _ HBK.out)).mono ?_; rintro e wa ⟨rfl, hdr⟩; have G0 := Aside0.mk (blk_below F0.out hdr.below); have G1 := Aside0.mk (blk_below F1.out hdr.below); have G2 := Aside0.mk (blk_below F2.out hdr.below); have G3 := Aside0.mk (blk_below F3.out hdr.below); have HBa := Aside0.mk (below_step HB4.out hdr.below); clear hdr; have hc2_ := (blk_cell G2.out 0).trans rfl; have hf2_ := blk_frozen G2.out 0; have hc3_ := (blk_cell G3.out 0).trans rfl; have hf3_ := blk_frozen G3.out 0)
    have q2 := blk_far (blk_put G2.out 0 (.string (⟨#[]⟩ : ByteArray)) rfl) (p := ⟨w.heap.size + 1 + 1 + 1, 0, none⟩) (show w.heap.size + 1 + 1 ≠ w.heap.size + 1 + 1 + 1 by omega) (.int .i64 170)
    have q3 := blk_put (blk_far G3.out (p := ⟨w.heap.size + 1 + 1, 0, none⟩) (show w.heap.size + 1 + 1 + 1 ≠ w.heap.size + 1 + 1 by omega) (.string (⟨#[]⟩ : ByteArray))) 0 (.int .i64 170) rfl
    have qB := below_set (j := 0) (v := .int .i64 170) (below_set (j := 0) (v := .string (⟨#[]⟩ : ByteArray)) HBa.out (show w.heap.size ≤ w.heap.size + 1 + 1 by omega)) (show w.heap.size ≤ w.heap.size + 1 + 1 + 1 by omega)
    exact relay_Wrap.ends w _ _ _ qB q2 q3 rfl rfl
  have hlb : decide ((32 : Int) < (l1.length : Int)) = false := decide_eq_false (by omega)
  have hlb2 : decide (32 < l1.length) = false := decide_eq_false hl
  cases hany : l1.any wbad
  case true =>
    unfold relay_Wrap.g at HH
    rw [if_pos hk, if_neg hl, if_pos hany] at HH
    obtain ⟨rfl, rfl⟩ : (⟨#[]⟩ : ByteArray) = r1 ∧ (171 : Int) = r2 := by have := HH.out; simpa only [Prod.mk.injEq] using this
    have HA := Aside0.mk hany
    clear hbe hk HH hl hany
    refine callsIn_of_wp_marks Try.func13 rfl trivial ?_ rfl
    simp only [Try.ntmps13, List.size_toArray, List.length_cons, List.length_nil, Nat.reduceAdd, Nat.reduceSub, Array.replicate_succ, Array.replicate_zero, List.push_toArray, List.append_toArray, List.nil_append, List.cons_append]
    gi_wp2_with (first | (refine ⟨trivial, ?_⟩; gi_at_call 18; rw [HW4.out]; refine (callsIn_wide.2 (relay_isKind.calls a0 true _ HBK.out)).mono ?_; rintro e wa ⟨rfl, hdr⟩; have G0 := Aside0.mk (blk_below F0.out hdr.below); have G1 := Aside0.mk (blk_below F1.out hdr.below); have G2 := Aside0.mk (blk_below F2.out hdr.below); have G3 := Aside0.mk (blk_below F3.out hdr.below); have HBa := Aside0.mk (below_step HB4.out hdr.below); clear hdr; skip) | (refine ⟨trivial, ?_⟩; gi_at_call 22; refine (callsIn_wide.2 (wbad_calls A1 c1 l1 _ (Kd.C_below HR.out HBa.out))).mono ?_; rintro e wb ⟨rfl, hb⟩; rw [HA.out]; have K0 := Aside0.mk (blk_below G0.out hb); have K1 := Aside0.mk (blk_below G1.out hb); have K2 := Aside0.mk (blk_below G2.out hb); have K3 := Aside0.mk (blk_below G3.out hb); have HBb := Aside0.mk (below_step HBa.out hb); clear hb; have hc2_ := (blk_cell K2.out 0).trans rfl; have hf2_ := blk_frozen K2.out 0; have hc3_ := (blk_cell K3.out 0).trans rfl; have hf3_ := blk_frozen K3.out 0))
    have q2 := blk_far (blk_put K2.out 0 (.string (⟨#[]⟩ : ByteArray)) rfl) (p := ⟨w.heap.size + 1 + 1 + 1, 0, none⟩) (show w.heap.size + 1 + 1 ≠ w.heap.size + 1 + 1 + 1 by omega) (.int .i64 171)
    have q3 := blk_put (blk_far K3.out (p := ⟨w.heap.size + 1 + 1, 0, none⟩) (show w.heap.size + 1 + 1 + 1 ≠ w.heap.size + 1 + 1 by omega) (.string (⟨#[]⟩ : ByteArray))) 0 (.int .i64 171) rfl
    have qB := below_set (j := 0) (v := .int .i64 171) (below_set (j := 0) (v := .string (⟨#[]⟩ : ByteArray)) HBb.out (show w.heap.size ≤ w.heap.size + 1 + 1 by omega)) (show w.heap.size ≤ w.heap.size + 1 + 1 + 1 by omega)
    exact relay_Wrap.ends w _ _ _ qB q2 q3 rfl rfl
  unfold relay_Wrap.g at HH
  rw [if_pos hk, if_neg hl, if_neg (by rw [hany]; decide)] at HH
  have HA := Aside0.mk hany
  clear hbe hk hl hany
  refine callsIn_of_wp_marks Try.func13 rfl trivial ?_ rfl
  simp only [Try.ntmps13, List.size_toArray, List.length_cons, List.length_nil, Nat.reduceAdd, Nat.reduceSub, Array.replicate_succ, Array.replicate_zero, List.push_toArray, List.append_toArray, List.nil_append, List.cons_append]
  gi_wp2_with (first | (refine ⟨trivial, ?_⟩; gi_at_call 18; rw [HW4.out]; refine (callsIn_wide.2 (relay_isKind.calls a0 true _ HBK.out)).mono ?_; rintro e wa ⟨rfl, hdr⟩; have G0 := Aside0.mk (blk_below F0.out hdr.below); have G1 := Aside0.mk (blk_below F1.out hdr.below); have G2 := Aside0.mk (blk_below F2.out hdr.below); have G3 := Aside0.mk (blk_below F3.out hdr.below); have HBa := Aside0.mk (below_step HB4.out hdr.below); clear hdr; skip) | (refine ⟨trivial, ?_⟩; gi_at_call 22; refine (callsIn_wide.2 (wbad_calls A1 c1 l1 _ (Kd.C_below HR.out HBa.out))).mono ?_; rintro e wb ⟨rfl, hb⟩; rw [HA.out]; have K0 := Aside0.mk (blk_below G0.out hb); have K1 := Aside0.mk (blk_below G1.out hb); have K2 := Aside0.mk (blk_below G2.out hb); have K3 := Aside0.mk (blk_below G3.out hb); have HBb := Aside0.mk (below_step HBa.out hb); clear hb) | (refine ⟨trivial, ?_⟩; gi_at_call 23; refine (back_in Fence.wide (9 - 1) trivial rfl _ _ _ _).mono ?_; rintro e w' ⟨rfl, rfl⟩))
  have hK3 := blk_lt K3.out
  have bS : (wb.alloc (.cells #[.slice A1 l1.length c1] 23)).heap[wb.heap.size]? = some (.cells #[.slice A1 l1.length c1] 23 (0, 0)) := blk_new wb _
  have M0 := Aside0.mk (blk_alloc K0.out (.cells #[.slice A1 l1.length c1] 23))
  have M1 := Aside0.mk (blk_alloc K1.out (.cells #[.slice A1 l1.length c1] 23))
  have M2 := Aside0.mk (blk_alloc K2.out (.cells #[.slice A1 l1.length c1] 23))
  have M3 := Aside0.mk (blk_alloc K3.out (.cells #[.slice A1 l1.length c1] 23))
  have HBm := Aside0.mk (below_alloc HBb.out (.cells #[.slice A1 l1.length c1] 23))
  have hsz : (wb.alloc (.cells #[.slice A1 l1.length c1] 23)).heap.size = wb.heap.size + 1 := by simp
  generalize wb.alloc (.cells #[.slice A1 l1.length c1] 23) = W0 at bS M0 M1 M2 M3 HBm hsz ⊢
  refine wpIn_rangeFunc_ownH rfl (by decide) (gf := 38) (lb := #[.pointer (some ⟨wb.heap.size, 0, none⟩)]) rfl trivial (enters_of Try.func38 (by kernel_rfl) rfl)
    (back_stops Fence.wide (9 - 1) trivial rfl (by decide) wb.heap.size A1 c1 l1 w W0 HR.out HBm.out bS) KpR_t (KpR_b (by omega) (by omega)) (Below.refl _ _) (fun _ => rfl)
    (fun pre W => (∃ inner, W.heap[w.heap.size]? = some (.cells #[.int .i64 a0] 3 (0, 0)) ∧ W.heap[w.heap.size + 1]? = some (.cells #[.string inner] 9 (0, 0)) ∧ W.heap[w.heap.size + 1 + 1]? = some (.cells #[.string (⟨#[]⟩ : ByteArray)] 9 (0, 0)) ∧ W.heap[w.heap.size + 1 + 1 + 1]? = some (.cells #[.int .i64 0] 24 (0, 0)) ∧ W.heap[wb.heap.size]? = some (.cells #[.slice A1 l1.length c1] 23 (0, 0)) ∧ relay_Wrap.l a0 (pre.map (·.2)) a2 = (inner, 0)) ∧ Below w.heap.size w W)
    (fun c pre W => (c = .ret ∧ W.heap[w.heap.size + 1 + 1]? = some (.cells #[.string (⟨#[]⟩ : ByteArray)] 9 (0, 0)) ∧ W.heap[w.heap.size + 1 + 1 + 1]? = some (.cells #[.int .i64 6] 24 (0, 0)) ∧ relay_Wrap.l a0 (pre.map (·.2)) a2 = ((⟨#[]⟩ : ByteArray), 6)) ∧ Below w.heap.size w W)
    (OwnFrom.and (fun s X Y row hs hg hr => by
      obtain ⟨inner, h0, h1, h2, h3, h4, h5⟩ := hs
      exact ⟨inner, XIn.blk_own (β := Unit) _ _ (fun _ => _) () X Y row h0 hg (fun r e => (hr r e).2), XIn.blk_own (β := Unit) _ _ (fun _ => _) () X Y row h1 hg (fun r e => (hr r e).2), XIn.blk_own (β := Unit) _ _ (fun _ => _) () X Y row h2 hg (fun r e => (hr r e).2), XIn.blk_own (β := Unit) _ _ (fun _ => _) () X Y row h3 hg (fun r e => (hr r e).2), XIn.blk_own (β := Unit) _ _ (fun _ => _) () X Y row h4 hg (fun r e => (hr r e).2), h5⟩) (ownFrom_below (Nat.le_refl _) (by omega)))
    (fun c => OwnFrom.and (fun s X Y row hs hg hr => by
      obtain ⟨h1, h2, h3, h4⟩ := hs
      exact ⟨h1, XIn.blk_own (β := Unit) _ _ (fun _ => _) () X Y row h2 hg (fun r e => (hr r e).2), XIn.blk_own (β := Unit) _ _ (fun _ => _) () X Y row h3 hg (fun r e => (hr r e).2), h4⟩) (ownFrom_below (Nat.le_refl _) (by omega)))
    ⟨⟨a2, M0.out, M1.out, M2.out, M3.out, bS, rfl⟩, HBm.out⟩
    (fun x a' W => ∃ Bx, w.heap.size + 1 + 1 + 1 < Bx ∧ W.heap[Bx]? = some (.cells #[.int .i64 x.2.f0, .int .u64 x.2.f1.f0, .int .u64 x.2.f1.f1, .int .u64 x.2.f2.f0, .int .u64 x.2.f2.f1, .string x.2.f3, .bool x.2.f4] 39 (0, 0)) ∧ a' = { tmps := #[.int .i64 a0, .slice A1 l1.length c1, .string a2, (.pointer (some ⟨w.heap.size, 0, none⟩)), undef, (.pointer (some ⟨w.heap.size + 1, 0, none⟩)), (.pointer (some ⟨w.heap.size + 1 + 1, 0, none⟩)), (.pointer (some ⟨w.heap.size + 1 + 1 + 1, 0, none⟩)), .func (.func 21) #[] #[], undef, .pointer (some ⟨Bx, 0, none⟩), undef, undef, undef, .bool false, .int .i64 a0, .bool true, .bool false, .bool false, .slice A1 l1.length c1, .int .i64 (l1.length : Int), .bool false, .bool false, .slice A1 l1.length c1, .func (.func 21) #[] #[], .bool false, .slice A1 l1.length c1, .func (.func 38) #[] #[.pointer (some ⟨wb.heap.size, 0, none⟩)], .int .i64 (x.1 : Int), .agg #[.int .i64 x.2.f0, .int .u64 x.2.f1.f0, .int .u64 x.2.f1.f1, .int .u64 x.2.f2.f0, .int .u64 x.2.f2.f1, .string x.2.f3, .bool x.2.f4], undef, undef, undef, undef, undef, undef, undef, undef, undef, undef, undef, undef, undef, undef, undef, undef, undef, undef, undef, undef, undef, undef, undef, undef, undef, undef, undef, undef, undef, undef, undef, undef, undef, undef, undef, undef, undef, undef, undef], defers := [] })
    (fun x a' _ X Y row hs hg hr => by obtain ⟨Bx, h1, h2, h3⟩ := hs; exact ⟨Bx, h1, XIn.blk_own (β := Unit) _ _ (fun _ => _) () X Y row h2 hg (fun r e => (hr r e).2), h3⟩)
    ?assign ?body ?done ?stop
  case assign =>
    rintro l pre x W K ⟨⟨inner, d0, d1, d2, d3, dS, hl⟩, hB1⟩ hK
    unfold encR
    have HNB := Aside0.mk (blk_new W (.cells #[.int .i64 0, .int .u64 0, .int .u64 0, .int .u64 0, .int .u64 0, .string (⟨#[]⟩ : ByteArray), .bool false] 39))
    have HD0 := Aside0.mk d0
    have HD1 := Aside0.mk d1
    have HD2 := Aside0.mk d2
    have HD3 := Aside0.mk d3
    have HDS := Aside0.mk dS
    have HB1 := Aside0.mk hB1
    have HL := Aside0.mk hl
    clear d0 d1 d2 d3 dS hB1 hl
    gi_wp2_with ((with_reducible refine XIn.gate_store (p := 10) rfl ?_); refine XIn.storeIn_ rfl rfl 39 rfl W.heap.size rfl _ #[.int .i64 x.2.f0, .int .u64 x.2.f1.f0, .int .u64 x.2.f1.f1, .int .u64 x.2.f2.f0, .int .u64 x.2.f2.f1, .string x.2.f3, .bool x.2.f4] rfl HNB.out hi39 (Eq.refl 7) (by simp [Value.oneCell']) ?_; intro W2 hw1 hw2 hw3; have HW1 := Aside0.mk hw1; have HW2 := Aside0.mk hw2; have HW3 := Aside0.mk hw3; clear hw1 hw2 hw3)
    have hBW : Below W.heap.size W W2 := ((Below.refl W.heap.size W).alloc (Nat.le_refl _) _).trans (HW2.out _ (Nat.le_refl _))
    have hbs := blk_lt HDS.out
    have hd2 := blk_lt HD3.out
    exact hK _ _ ((XIn.keeps_below hBW).from _) ⟨hBW.mono HB1.out.size, hBW.block _ hbs⟩ ⟨⟨inner, blk_below HD0.out hBW, blk_below HD1.out hBW, blk_below HD2.out hBW, blk_below HD3.out hBW, blk_below HDS.out hBW, HL.out⟩, HB1.out.trans (hBW.mono HB1.out.size)⟩ ⟨W.heap.size, hd2, HW1.out, rfl⟩
  case body =>
    rintro l pre ⟨x0, y⟩ a' W hl ⟨r, hrec⟩ ⟨⟨inner, d0, d1, d2, d3, dS, hll⟩, hB1⟩ ⟨Bx, hBx, bX, rfl⟩ hlt
    obtain ⟨⟨e1, e2⟩, hee⟩ : ∃ e, e = relay_Wrap.em y inner := ⟨_, rfl⟩
    have hem := relay_Wrap.em_eq y inner
    rw [← hee] at hem
    obtain ⟨hem, hez⟩ := hem
    have HEE := Aside0.mk hee
    have HEZ := Aside0.mk hez
    have HD0 := Aside0.mk d0
    have HD1 := Aside0.mk d1
    have HD2 := Aside0.mk d2
    have HD3 := Aside0.mk d3
    have HDS := Aside0.mk dS
    have HB1 := Aside0.mk hB1
    have HLL := Aside0.mk hll
    have HBX := Aside0.mk hBx
    have HbX := Aside0.mk bX
    have hc1 : W.cell? ⟨w.heap.size + 1, 0, none⟩ = some (.string inner) := (blk_cell d1 0).trans rfl
    have hnb := blk_new W (.cells #[.int .u16 9, .string inner] 42)
    have HNB := Aside0.mk hnb
    have hba : Below W.heap.size W (W.alloc (.cells #[.int .u16 9, .string inner] 42)) := below_alloc (Below.refl _ W) _
    have HBA := Aside0.mk hba
    have HU42 := hu42
    clear hee hez d0 d2 d3 dS hB1 hll hBx hrec hlt hba
    by_cases hf : y.f4 = true
    · have hcx6 : (W.alloc (.cells #[.int .u16 9, .string inner] 42)).cell? ⟨Bx, 6, none⟩ = some (.bool true) := (blk_cell (blk_alloc bX _) 6).trans (by rw [← hf]; rfl)
      have hcx5 : (W.alloc (.cells #[.int .u16 9, .string inner] 42)).cell? ⟨Bx, 5, none⟩ = some (.string y.f3) := (blk_cell (blk_alloc bX _) 5).trans rfl
      have hem2 : opt6_Emit.f [(⟨18, y.f3⟩ : S42), ⟨9, inner⟩] = some (e1, e2) := by unfold relay_Wrap.o at hem; rwa [if_pos hf] at hem
      have HEM := Aside0.mk hem2
      have HI1 := Aside0.mk (blk_alloc hnb (.cells #[.int .u16 18, .string y.f3] 42))
      have hn2 := blk_new (W.alloc (.cells #[.int .u16 9, .string inner] 42)) (.cells #[.int .u16 18, .string y.f3] 42)
      rw [World.size_alloc] at hn2
      have HI2 := Aside0.mk hn2
      have HBA2 := Aside0.mk (below_alloc HBA.out (.cells #[.int .u16 18, .string y.f3] 42))
      clear hem hem2 hnb hn2 bX d1 hf
      by_cases hz : e2 = 0
      · subst hz
        gi_wp2_with (first | (refine ⟨trivial, ?_⟩; gi_at_call 24; refine (CallsIn.inRound l (callsIn_wide.2 (ins_one W.heap.size (W.heap.size + 1) ⟨18, y.f3⟩ ⟨9, inner⟩ _ HI1.out HI2.out))).mono ?_; rintro e w1 ⟨g, cap, rfl, hcap, hC, hbi⟩; have HC := Aside0.mk hC; have HCP := Aside0.mk hcap; have HBi := Aside0.mk (below_step HBA2.out hbi); clear hbi hcap hC) | (refine ⟨trivial, ?_⟩; gi_at_call 17; refine (CallsIn.inRound l (callsIn_wide.2 (opt6_Emit.calls (some ⟨g, 0, none⟩) cap [⟨18, y.f3⟩, ⟨9, inner⟩] _ _ _ HC.out HCP.out HEM.out))).mono ?_; rintro e we ⟨rfl, hbe⟩; have HBe := Aside0.mk (below_step HBi.out hbe); clear hbe))
        have hA := relay_Wrap.ad_eq y.f1.f0 y.f1.f1
        have hB := relay_Wrap.ad_eq y.f2.f0 y.f2.f1
        have hEZ : e1.size ≤ 140000 := HEZ.out
        refine wrap_region _ (by kernel_rfl) l _ _ _ _ _ (by kernel_rfl) a0 y w.heap.size (w.heap.size + 1) Bx _ _ e1 inner rfl rfl rfl rfl (blk_below HD0.out HBe.out) (blk_below HD1.out HBe.out) (blk_below HbX.out HBe.out) hA.1 hB.1 (by rw [hA.2, hB.2]; omega) ?_
        intro a3 W3 _ hB3 W5 hW5
        subst hW5
        have hBW : Below W.heap.size W W3 := below_step HBe.out hB3
        have hle := HB1.out.size
        have hfin : KeepsFrom W0.heap.size W (W3.setCell ⟨w.heap.size + 1, 0, none⟩ (.string (((strOfNums [a0 % 256, y.f0 % 256] ++ relay_Wrap.ad y.f1.f0 y.f1.f1) ++ relay_Wrap.ad y.f2.f0 y.f2.f1) ++ e1))) ∧ KpR w.heap.size wb.heap.size W (W3.setCell ⟨w.heap.size + 1, 0, none⟩ (.string (((strOfNums [a0 % 256, y.f0 % 256] ++ relay_Wrap.ad y.f1.f0 y.f1.f1) ++ relay_Wrap.ad y.f2.f0 y.f2.f1) ++ e1))) ∧ (fun pre W => (∃ inner, W.heap[w.heap.size]? = some (.cells #[.int .i64 a0] 3 (0, 0)) ∧ W.heap[w.heap.size + 1]? = some (.cells #[.string inner] 9 (0, 0)) ∧ W.heap[w.heap.size + 1 + 1]? = some (.cells #[.string (⟨#[]⟩ : ByteArray)] 9 (0, 0)) ∧ W.heap[w.heap.size + 1 + 1 + 1]? = some (.cells #[.int .i64 0] 24 (0, 0)) ∧ W.heap[wb.heap.size]? = some (.cells #[.slice A1 l1.length c1] 23 (0, 0)) ∧ relay_Wrap.l a0 (pre.map (·.2)) a2 = (inner, 0)) ∧ Below w.heap.size w W) (pre ++ [(x0, y)]) (W3.setCell ⟨w.heap.size + 1, 0, none⟩ (.string (((strOfNums [a0 % 256, y.f0 % 256] ++ relay_Wrap.ad y.f1.f0 y.f1.f1) ++ relay_Wrap.ad y.f2.f0 y.f2.f1) ++ e1))) := by
          refine ⟨((XIn.keeps_below hBW).trans (KeepsOthers.setCell _ _ _)).from _, ⟨(hBW.mono hle).setCell (p := ⟨w.heap.size + 1, 0, none⟩) (Nat.le_succ _) _, (blk_far (blk_below HDS.out hBW) (p := ⟨w.heap.size + 1, 0, none⟩) (show wb.heap.size ≠ w.heap.size + 1 by omega) _).trans HDS.out.symm⟩, ⟨relay_Wrap.stp a0 y inner, (blk_far (blk_below HD0.out hBW) (p := ⟨w.heap.size + 1, 0, none⟩) (show w.heap.size ≠ w.heap.size + 1 by omega) _), ?_, (blk_far (blk_below HD2.out hBW) (p := ⟨w.heap.size + 1, 0, none⟩) (show w.heap.size + 1 + 1 ≠ w.heap.size + 1 by omega) _), (blk_far (blk_below HD3.out hBW) (p := ⟨w.heap.size + 1, 0, none⟩) (show w.heap.size + 1 + 1 + 1 ≠ w.heap.size + 1 by omega) _), (blk_far (blk_below HDS.out hBW) (p := ⟨w.heap.size + 1, 0, none⟩) (show wb.heap.size ≠ w.heap.size + 1 by omega) _), ?_⟩, (HB1.out.trans (hBW.mono hle)).setCell (p := ⟨w.heap.size + 1, 0, none⟩) (Nat.le_succ _) _⟩
          · have e := blk_put (blk_below HD1.out hBW) 0 (.string (((strOfNums [a0 % 256, y.f0 % 256] ++ relay_Wrap.ad y.f1.f0 y.f1.f1) ++ relay_Wrap.ad y.f2.f0 y.f2.f1) ++ e1)) rfl
            unfold relay_Wrap.stp
            rw [← HEE.out]
            exact e
          · rw [List.map_append, relay_Wrap.l_append, HLL.out, if_pos rfl]
            show relay_Wrap.l a0 [y] inner = _
            rw [relay_Wrap.l, ← HEE.out, if_pos rfl]
            rfl
        exact hfin

      · have hz2 : (e2 != 0) = true := by simp [hz]
        have HZ := Aside0.mk hz
        clear hz
        gi_wp2_with (first | (refine ⟨trivial, ?_⟩; gi_at_call 24; refine (CallsIn.inRound l (callsIn_wide.2 (ins_one W.heap.size (W.heap.size + 1) ⟨18, y.f3⟩ ⟨9, inner⟩ _ HI1.out HI2.out))).mono ?_; rintro e w1 ⟨g, cap, rfl, hcap, hC, hbi⟩; have HC := Aside0.mk hC; have HCP := Aside0.mk hcap; have HBi := Aside0.mk (below_step HBA2.out hbi); clear hbi hcap hC) | (refine ⟨trivial, ?_⟩; gi_at_call 17; refine (CallsIn.inRound l (callsIn_wide.2 (opt6_Emit.calls (some ⟨g, 0, none⟩) cap [⟨18, y.f3⟩, ⟨9, inner⟩] _ _ _ HC.out HCP.out HEM.out))).mono ?_; rintro e we ⟨rfl, hbe⟩; have HBe := Aside0.mk (below_step HBi.out hbe); clear hbe; have hc2_ := (blk_cell (blk_below HD2.out HBe.out) 0).trans rfl; have hf2_ := blk_frozen (blk_below HD2.out HBe.out) 0; have hc3_ := (blk_cell (blk_below HD3.out HBe.out) 0).trans rfl; have hf3_ := blk_frozen (blk_below HD3.out HBe.out) 0))
        have hle := HB1.out.size
        refine ⟨(((XIn.keeps_below HBe.out).trans (KeepsOthers.setCell _ _ _)).trans (KeepsOthers.setCell _ _ _)).from _, ⟨rfl, ?_, ?_, ?_⟩, ((HB1.out.trans (HBe.out.mono hle)).setCell (p := ⟨w.heap.size + 1 + 1, 0, none⟩) (by show w.heap.size ≤ w.heap.size + 1 + 1; omega) _).setCell (p := ⟨w.heap.size + 1 + 1 + 1, 0, none⟩) (by show w.heap.size ≤ w.heap.size + 1 + 1 + 1; omega) _⟩
        · exact blk_far (blk_put (blk_below HD2.out HBe.out) 0 (.string (⟨#[]⟩ : ByteArray)) rfl) (p := ⟨w.heap.size + 1 + 1 + 1, 0, none⟩) (show w.heap.size + 1 + 1 ≠ w.heap.size + 1 + 1 + 1 by omega) _
        · exact blk_put (blk_far (blk_below HD3.out HBe.out) (p := ⟨w.heap.size + 1 + 1, 0, none⟩) (show w.heap.size + 1 + 1 + 1 ≠ w.heap.size + 1 + 1 by omega) _) 0 (.int .i64 6) rfl
        · rw [List.map_append, relay_Wrap.l_append, HLL.out, if_pos rfl]
          show relay_Wrap.l a0 [y] inner = _
          rw [relay_Wrap.l, ← HEE.out, if_neg HZ.out]

    · have hf := Bool.eq_false_iff.2 hf
      have hcx6 : (W.alloc (.cells #[.int .u16 9, .string inner] 42)).cell? ⟨Bx, 6, none⟩ = some (.bool false) := (blk_cell (blk_alloc bX _) 6).trans (by rw [← hf]; rfl)
      have hem2 : opt6_Emit.f [(⟨9, inner⟩ : S42)] = some (e1, e2) := by unfold relay_Wrap.o at hem; rwa [if_neg (by rw [hf]; decide)] at hem
      have HEM := Aside0.mk hem2
      have HC := Aside0.mk (k42_single (w := (W.alloc (.cells #[.int .u16 9, .string inner] 42))) (g := W.heap.size) ⟨9, inner⟩ ((blk_cell hnb 0).trans rfl) ((blk_cell hnb 1).trans rfl))
      have HCP : Aside0 ([(⟨9, inner⟩ : S42)].length ≤ 1) := ⟨Nat.le_refl _⟩
      clear hem hem2 hnb bX d1 hf
      by_cases hz : e2 = 0
      · subst hz
        gi_wp2_with ((refine ⟨trivial, ?_⟩; gi_at_call 17; refine (CallsIn.inRound l (callsIn_wide.2 (opt6_Emit.calls (some ⟨W.heap.size, 0, none⟩) 1 [⟨9, inner⟩] _ _ _ HC.out HCP.out HEM.out))).mono ?_; rintro e we ⟨rfl, hbe⟩; have HBe := Aside0.mk (below_step HBA.out hbe); clear hbe))
        have hA := relay_Wrap.ad_eq y.f1.f0 y.f1.f1
        have hB := relay_Wrap.ad_eq y.f2.f0 y.f2.f1
        have hEZ : e1.size ≤ 140000 := HEZ.out
        refine wrap_region _ (by kernel_rfl) l _ _ _ _ _ (by kernel_rfl) a0 y w.heap.size (w.heap.size + 1) Bx _ _ e1 inner rfl rfl rfl rfl (blk_below HD0.out HBe.out) (blk_below HD1.out HBe.out) (blk_below HbX.out HBe.out) hA.1 hB.1 (by rw [hA.2, hB.2]; omega) ?_
        intro a3 W3 _ hB3 W5 hW5
        subst hW5
        have hBW : Below W.heap.size W W3 := below_step HBe.out hB3
        have hle := HB1.out.size
        have hfin : KeepsFrom W0.heap.size W (W3.setCell ⟨w.heap.size + 1, 0, none⟩ (.string (((strOfNums [a0 % 256, y.f0 % 256] ++ relay_Wrap.ad y.f1.f0 y.f1.f1) ++ relay_Wrap.ad y.f2.f0 y.f2.f1) ++ e1))) ∧ KpR w.heap.size wb.heap.size W (W3.setCell ⟨w.heap.size + 1, 0, none⟩ (.string (((strOfNums [a0 % 256, y.f0 % 256] ++ relay_Wrap.ad y.f1.f0 y.f1.f1) ++ relay_Wrap.ad y.f2.f0 y.f2.f1) ++ e1))) ∧ (fun pre W => (∃ inner, W.heap[w.heap.size]? = some (.cells #[.int .i64 a0] 3 (0, 0)) ∧ W.heap[w.heap.size + 1]? = some (.cells #[.string inner] 9 (0, 0)) ∧ W.heap[w.heap.size + 1 + 1]? = some (.cells #[.string (⟨#[]⟩ : ByteArray)] 9 (0, 0)) ∧ W.heap[w.heap.size + 1 + 1 + 1]? = some (.cells #[.int .i64 0] 24 (0, 0)) ∧ W.heap[wb.heap.size]? = some (.cells #[.slice A1 l1.length c1] 23 (0, 0)) ∧ relay_Wrap.l a0 (pre.map (·.2)) a2 = (inner, 0)) ∧ Below w.heap.size w W) (pre ++ [(x0, y)]) (W3.setCell ⟨w.heap.size + 1, 0, none⟩ (.string (((strOfNums [a0 % 256, y.f0 % 256] ++ relay_Wrap.ad y.f1.f0 y.f1.f1) ++ relay_Wrap.ad y.f2.f0 y.f2.f1) ++ e1))) := by
          refine ⟨((XIn.keeps_below hBW).trans (KeepsOthers.setCell _ _ _)).from _, ⟨(hBW.mono hle).setCell (p := ⟨w.heap.size + 1, 0, none⟩) (Nat.le_succ _) _, (blk_far (blk_below HDS.out hBW) (p := ⟨w.heap.size + 1, 0, none⟩) (show wb.heap.size ≠ w.heap.size + 1 by omega) _).trans HDS.out.symm⟩, ⟨relay_Wrap.stp a0 y inner, (blk_far (blk_below HD0.out hBW) (p := ⟨w.heap.size + 1, 0, none⟩) (show w.heap.size ≠ w.heap.size + 1 by omega) _), ?_, (blk_far (blk_below HD2.out hBW) (p := ⟨w.heap.size + 1, 0, none⟩) (show w.heap.size + 1 + 1 ≠ w.heap.size + 1 by omega) _), (blk_far (blk_below HD3.out hBW) (p := ⟨w.heap.size + 1, 0, none⟩) (show w.heap.size + 1 + 1 + 1 ≠ w.heap.size + 1 by omega) _), (blk_far (blk_below HDS.out hBW) (p := ⟨w.heap.size + 1, 0, none⟩) (show wb.heap.size ≠ w.heap.size + 1 by omega) _), ?_⟩, (HB1.out.trans (hBW.mono hle)).setCell (p := ⟨w.heap.size + 1, 0, none⟩) (Nat.le_succ _) _⟩
          · have e := blk_put (blk_below HD1.out hBW) 0 (.string (((strOfNums [a0 % 256, y.f0 % 256] ++ relay_Wrap.ad y.f1.f0 y.f1.f1) ++ relay_Wrap.ad y.f2.f0 y.f2.f1) ++ e1)) rfl
            unfold relay_Wrap.stp
            rw [← HEE.out]
            exact e
          · rw [List.map_append, relay_Wrap.l_append, HLL.out, if_pos rfl]
            show relay_Wrap.l a0 [y] inner = _
            rw [relay_Wrap.l, ← HEE.out, if_pos rfl]
            rfl
        exact hfin

      · have hz2 : (e2 != 0) = true := by simp [hz]
        have HZ := Aside0.mk hz
        clear hz
        gi_wp2_with ((refine ⟨trivial, ?_⟩; gi_at_call 17; refine (CallsIn.inRound l (callsIn_wide.2 (opt6_Emit.calls (some ⟨W.heap.size, 0, none⟩) 1 [⟨9, inner⟩] _ _ _ HC.out HCP.out HEM.out))).mono ?_; rintro e we ⟨rfl, hbe⟩; have HBe := Aside0.mk (below_step HBA.out hbe); clear hbe; have hc2_ := (blk_cell (blk_below HD2.out HBe.out) 0).trans rfl; have hf2_ := blk_frozen (blk_below HD2.out HBe.out) 0; have hc3_ := (blk_cell (blk_below HD3.out HBe.out) 0).trans rfl; have hf3_ := blk_frozen (blk_below HD3.out HBe.out) 0))
        have hle := HB1.out.size
        refine ⟨(((XIn.keeps_below HBe.out).trans (KeepsOthers.setCell _ _ _)).trans (KeepsOthers.setCell _ _ _)).from _, ⟨rfl, ?_, ?_, ?_⟩, ((HB1.out.trans (HBe.out.mono hle)).setCell (p := ⟨w.heap.size + 1 + 1, 0, none⟩) (by show w.heap.size ≤ w.heap.size + 1 + 1; omega) _).setCell (p := ⟨w.heap.size + 1 + 1 + 1, 0, none⟩) (by show w.heap.size ≤ w.heap.size + 1 + 1 + 1; omega) _⟩
        · exact blk_far (blk_put (blk_below HD2.out HBe.out) 0 (.string (⟨#[]⟩ : ByteArray)) rfl) (p := ⟨w.heap.size + 1 + 1 + 1, 0, none⟩) (show w.heap.size + 1 + 1 ≠ w.heap.size + 1 + 1 + 1 by omega) _
        · exact blk_put (blk_far (blk_below HD3.out HBe.out) (p := ⟨w.heap.size + 1 + 1, 0, none⟩) (show w.heap.size + 1 + 1 + 1 ≠ w.heap.size + 1 + 1 by omega) _) 0 (.int .i64 6) rfl
        · rw [List.map_append, relay_Wrap.l_append, HLL.out, if_pos rfl]
          show relay_Wrap.l a0 [y] inner = _
          rw [relay_Wrap.l, ← HEE.out, if_neg HZ.out]

  case done =>
    rintro D ys W hD rfl ⟨⟨inner, d0, d1, d2, d3, dS, hll⟩, hB1⟩ hK
    rw [bwd_rev l1 l1.length (Nat.le_refl _), List.take_of_length_le (by simp)] at hll
    have hh : (if 65507 < inner.size then ((⟨#[]⟩ : ByteArray), (6 : Int)) else (inner, 0)) = (r1, r2) := by
      have h := HH.out
      rw [hll, if_pos (show ((inner, (0 : Int))).2 = 0 from rfl)] at h
      exact h
    have hc1 : W.cell? ⟨w.heap.size + 1, 0, none⟩ = some (.string inner) := (blk_cell d1 0).trans rfl
    have hc2 := (blk_cell d2 0).trans rfl
    have hf2 := blk_frozen d2 0
    have hc3 := (blk_cell d3 0).trans rfl
    have hf3 := blk_frozen d3 0
    have HD2 := Aside0.mk d2
    have HD3 := Aside0.mk d3
    have HB1 := Aside0.mk hB1
    have HK := Aside0.mk hK
    have HD := Aside0.mk hD
    clear d0 d1 d2 d3 dS hll hB1 hK HH hD
    by_cases hs : 65507 < inner.size
    · rw [if_pos hs] at hh
      simp only [Prod.mk.injEq] at hh
      obtain ⟨rfl, rfl⟩ := hh
      have hg1 : decide ((65507 : Int) < (inner.size : Int)) = true := decide_eq_true (by omega)
      have hg2 : decide (65507 < inner.size) = true := decide_eq_true hs
      clear hs
      gi_wp2
      have eK : ((W.setCell ⟨w.heap.size + 1 + 1, 0, none⟩ (.string (⟨#[]⟩ : ByteArray))).setCell ⟨w.heap.size + 1 + 1 + 1, 0, none⟩ (.int .i64 6)).heap[D]? = some (.deferred (some [])) := ((KeepsOthers.setCell _ _ _).trans (KeepsOthers.setCell _ _ _)).same D _ HK.out rfl
      have q2 := blk_far (blk_put HD2.out 0 (.string (⟨#[]⟩ : ByteArray)) rfl) (p := ⟨w.heap.size + 1 + 1 + 1, 0, none⟩) (show w.heap.size + 1 + 1 ≠ w.heap.size + 1 + 1 + 1 by omega) (.int .i64 6)
      have q3 := blk_put (blk_far HD3.out (p := ⟨w.heap.size + 1 + 1, 0, none⟩) (show w.heap.size + 1 + 1 + 1 ≠ w.heap.size + 1 + 1 by omega) (.string (⟨#[]⟩ : ByteArray))) 0 (.int .i64 6) rfl
      have qB := below_set (j := 0) (v := .int .i64 6) (below_set (j := 0) (v := .string (⟨#[]⟩ : ByteArray)) HB1.out (show w.heap.size ≤ w.heap.size + 1 + 1 by omega)) (show w.heap.size ≤ w.heap.size + 1 + 1 + 1 by omega)
      generalize ((W.setCell ⟨w.heap.size + 1 + 1, 0, none⟩ (.string (⟨#[]⟩ : ByteArray))).setCell ⟨w.heap.size + 1 + 1 + 1, 0, none⟩ (.int .i64 6)) = WF at eK q2 q3 qB ⊢
      have hD3 := HD.out
      refine ⟨by simp, .inl ⟨_, _, rfl, run_takeDeferred eK, ?_⟩⟩
      exact relay_Wrap.ends w (WF.putObj D (.deferred none)) _ _ (qB.trans (belowK_b (w := w) (Nat.le_refl _) WF D _ _ (by omega) eK rfl rfl)) ((World.putObj_heap_other (by omega)).trans q2) ((World.putObj_heap_other (by omega)).trans q3) rfl rfl

    · rw [if_neg hs] at hh
      simp only [Prod.mk.injEq] at hh
      obtain ⟨rfl, rfl⟩ := hh
      have hg1 : decide ((65507 : Int) < (inner.size : Int)) = false := decide_eq_false (by omega)
      have hg2 : decide (65507 < inner.size) = false := decide_eq_false hs
      clear hs
      gi_wp2
      have eK : ((W.setCell ⟨w.heap.size + 1 + 1, 0, none⟩ (.string inner)).setCell ⟨w.heap.size + 1 + 1 + 1, 0, none⟩ (.int .i64 0)).heap[D]? = some (.deferred (some [])) := ((KeepsOthers.setCell _ _ _).trans (KeepsOthers.setCell _ _ _)).same D _ HK.out rfl
      have q2 := blk_far (blk_put HD2.out 0 (.string inner) rfl) (p := ⟨w.heap.size + 1 + 1 + 1, 0, none⟩) (show w.heap.size + 1 + 1 ≠ w.heap.size + 1 + 1 + 1 by omega) (.int .i64 0)
      have q3 := blk_put (blk_far HD3.out (p := ⟨w.heap.size + 1 + 1, 0, none⟩) (show w.heap.size + 1 + 1 + 1 ≠ w.heap.size + 1 + 1 by omega) (.string inner)) 0 (.int .i64 0) rfl
      have qB := below_set (j := 0) (v := .int .i64 0) (below_set (j := 0) (v := .string inner) HB1.out (show w.heap.size ≤ w.heap.size + 1 + 1 by omega)) (show w.heap.size ≤ w.heap.size + 1 + 1 + 1 by omega)
      generalize ((W.setCell ⟨w.heap.size + 1 + 1, 0, none⟩ (.string inner)).setCell ⟨w.heap.size + 1 + 1 + 1, 0, none⟩ (.int .i64 0)) = WF at eK q2 q3 qB ⊢
      have hD3 := HD.out
      refine ⟨by simp, .inl ⟨_, _, rfl, run_takeDeferred eK, ?_⟩⟩
      exact relay_Wrap.ends w (WF.putObj D (.deferred none)) _ _ (qB.trans (belowK_b (w := w) (Nat.le_refl _) WF D _ _ (by omega) eK rfl rfl)) ((World.putObj_heap_other (by omega)).trans q2) ((World.putObj_heap_other (by omega)).trans q3) rfl rfl

  case stop =>
    rintro D c pre W hD ⟨k, hk, rfl⟩ ⟨⟨rfl, d2, d3, hl⟩, hB1⟩ hK
    have hres : relay_Wrap.l a0 l1.reverse a2 = ((⟨#[]⟩ : ByteArray), 6) := by
      rw [bwd_rev l1 k hk] at hl
      rw [← List.take_append_drop k l1.reverse, relay_Wrap.l_append, hl, if_neg (by decide)]
    have hh : ((⟨#[]⟩ : ByteArray), (6 : Int)) = (r1, r2) := by
      have h := HH.out
      rw [hres, if_neg (by decide)] at h
      exact h
    simp only [Prod.mk.injEq] at hh
    obtain ⟨rfl, rfl⟩ := hh
    clear hres HH hl
    gi_wp2
    refine ⟨by simp, .inl ⟨_, _, rfl, run_takeDeferred hK, ?_⟩⟩
    exact relay_Wrap.ends w (W.putObj D (.deferred none)) _ _ (hB1.trans (belowK_b (w := w) (Nat.le_refl _) W D _ _ (by omega) hK rfl rfl)) ((World.putObj_heap_other (by omega)).trans d2) ((World.putObj_heap_other (by omega)).trans d3) rfl rfl
end
theorem relay_Wrap.calls (a0 : Int) (A1 : Option Addr) (c1 : Nat) (l1 : List S39) (a2 : ByteArray) (r1 : ByteArray) (r2 : Int) (w : World) (hr1 : Kd.C k39 w A1 l1.length l1) (hc1 : l1.length ≤ c1) (h : relay_Wrap.f a0 l1 a2 = some (r1, r2)) :
    Calls Try.prog 13 #[.int .i64 a0, .slice A1 l1.length c1, .string a2] w fun e w' => e = .returned (.tuple #[.string r1, .int .i64 r2]) ∧ Below w.heap.size w w' :=
  callsIn_wide.1 (relay_Wrap.in_ a0 A1 c1 l1 a2 r1 r2 w hr1 (Option.some.inj h))

/-! ### relay_Link: function 15: by hand -/
def relay_Link.l : List S39 → Int × Int × Bool
  | [] => (0, 0, false)
  | r :: l => if r.f1.f0 = 0 ∧ r.f1.f1 = 0 then relay_Link.l l else (r.f1.f0, r.f1.f1, true)
def relay_Link.f (l0 : List S39) : Option (Int × Int × Bool) := some (relay_Link.l l0.reverse)
theorem relay_Link.l_zero : ∀ (l : List S39), (∀ x ∈ l, x.f1.f0 = 0 ∧ x.f1.f1 = 0) → relay_Link.l l = (0, 0, false)
  | [], _ => rfl
  | r :: l, h => by rw [relay_Link.l, if_pos (h r List.mem_cons_self)]; exact relay_Link.l_zero l (fun x hx => h x (List.mem_cons_of_mem _ hx))
theorem relay_Link.l_hit : ∀ (pre : List S39) (x : S39) (rest : List S39), (∀ y ∈ pre, y.f1.f0 = 0 ∧ y.f1.f1 = 0) → ¬ (x.f1.f0 = 0 ∧ x.f1.f1 = 0) → relay_Link.l (pre ++ x :: rest) = (x.f1.f0, x.f1.f1, true)
  | [], x, rest, _, h => by rw [List.nil_append, relay_Link.l, if_neg h]
  | r :: pre, x, rest, h, hx => by rw [List.cons_append, relay_Link.l, if_pos (h r List.mem_cons_self)]; exact relay_Link.l_hit pre x rest (fun y hy => h y (List.mem_cons_of_mem _ hy)) hx
section
open Go.Shelf
attribute [local go_sem] Oper.semAt_some
theorem relay_Link.ends (w W WF : World) (D : Nat) (x y : Int) (b : Bool) {tmps : Array Value} {W0 : World} (hB : Below w.heap.size w W) (eB : Below w.heap.size W WF) (hD : W0.heap.size ≤ D) (hK : WF.heap[D]? = some (.deferred (some [])))
    (hb2 : WF.heap[w.heap.size]? = some (.cells #[.int .u64 x, .int .u64 y] 33 (0, 0))) (hb3 : WF.heap[w.heap.size + 1]? = some (.cells #[.bool b] 4 (0, 0)))
    (h2 : tmps[2]? = some (.pointer (some ⟨w.heap.size, 0, none⟩))) (h3 : tmps[3]? = some (.pointer (some ⟨w.heap.size + 1, 0, none⟩))) (hsz : W0.heap.size = w.heap.size + 3) :
    ∃ v, (results Try.f15 tmps).run Try.prog (WF.putObj D (.deferred none)) = .ok v (WF.putObj D (.deferred none)) ∧ (Ending.returned v = .returned (.tuple #[.agg #[.int .u64 x, .int .u64 y], .bool b]) ∧ Below w.heap.size w (WF.putObj D (.deferred none))) := by
  have g2 : (WF.putObj D (.deferred none)).heap[w.heap.size]? = some (.cells #[.int .u64 x, .int .u64 y] 33 (0, 0)) := (World.putObj_heap_other (by omega)).trans hb2
  have g3 : (WF.putObj D (.deferred none)).heap[w.heap.size + 1]? = some (.cells #[.bool b] 4 (0, 0)) := (World.putObj_heap_other (by omega)).trans hb3
  have hi33 : (Try.prog.info? 33).map (·.size) = some 2 := by kernel_rfl
  have r2 := run_loadVar_row (P := Try.prog) (WF.putObj D (.deferred none)) w.heap.size 33 33 _ (0, 0) _ g2 Try.underlying33 rfl hi33
  have hc3 : (WF.putObj D (.deferred none)).cell? ⟨w.heap.size + 1, 0, none⟩ = some (.bool b) := (blk_cell g3 0).trans rfl
  have hu4 := Try.underlying4
  refine ⟨_, ?_, rfl, hB.trans (eB.trans (belowK_b (w := w) (Nat.le_refl _) WF D _ _ (by omega) hK rfl rfl))⟩
  have hfr : Try.f15.results = #[.cell 2 33, .cell 3 4] := by kernel_rfl
  have hp2 : tmps[2]?.getD undef = .pointer (some ⟨w.heap.size, 0, none⟩) := by rw [h2]; rfl
  have hp3 : tmps[3]?.getD undef = .pointer (some ⟨w.heap.size + 1, 0, none⟩) := by rw [h3]; rfl
  have r3 : (loadVar 4 ⟨w.heap.size + 1, 0, none⟩).run Try.prog (WF.putObj D (.deferred none)) = .ok (.bool b) (WF.putObj D (.deferred none)) := by
    generalize WF.putObj D (.deferred none) = WX at hc3 ⊢
    go_simp
  simp [results, hfr, hp2, hp3, asAddr, r2, r3, Result.andThen]
set_option maxRecDepth 100000 in
set_option maxHeartbeats 4000000 in
theorem relay_Link.in_ (A0 : Option Addr) (c0 : Nat) (l0 : List S39) (r1 : Int) (r2 : Int) (r3 : Bool) (w : World) (hr0 : Kd.C k39 w A0 l0.length l0) (h : (r1, r2, r3) = relay_Link.l l0.reverse) :
    CallsIn Fence.wide 9 Try.prog 15 #[.slice A0 l0.length c0] w fun e w' => e = .returned (.tuple #[.agg #[.int .u64 r1, .int .u64 r2], .bool r3]) ∧ Below w.heap.size w w' := by
  have HR := Aside0.mk hr0
  have HH := Aside0.mk h
  have hi33 : (Try.prog.info? 33).map (·.size) = some 2 := by kernel_rfl
  have hi39 : (Try.prog.info? 39).map (·.size) = some 7 := by kernel_rfl
  have hu33 := Try.underlying33
  have hu39 := Try.underlying39
  clear hr0 h
  refine callsIn_of_wp_marks Try.func15 rfl trivial ?_ rfl
  simp only [Try.ntmps15, List.size_toArray, List.length_cons, List.length_nil, Nat.reduceAdd, Nat.reduceSub, Array.replicate_succ, Array.replicate_zero, List.push_toArray, List.append_toArray, List.nil_append, List.cons_append]
  gi_wp2_with (refine ⟨trivial, ?_⟩; gi_at_call 23; refine (back_in Fence.wide (9 - 1) trivial rfl _ _ _ _).mono ?_; rintro e w' ⟨rfl, rfl⟩)
  have b2 : ((w.alloc (.cells #[.int .u64 0, .int .u64 0] 33)).alloc (.cells #[.bool false] 4)).heap[w.heap.size]? = some (.cells #[.int .u64 0, .int .u64 0] 33 (0, 0)) := blk_alloc (blk_new w _) _
  have b3 : ((w.alloc (.cells #[.int .u64 0, .int .u64 0] 33)).alloc (.cells #[.bool false] 4)).heap[w.heap.size + 1]? = some (.cells #[.bool false] 4 (0, 0)) := by have := blk_new (w.alloc (.cells #[.int .u64 0, .int .u64 0] 33)) (.cells #[.bool false] 4); simpa using this
  have hB0 : Below w.heap.size w ((w.alloc (.cells #[.int .u64 0, .int .u64 0] 33)).alloc (.cells #[.bool false] 4)) := ((Below.refl _ w).alloc (Nat.le_refl _) _).alloc (by simp) _
  have hsz : ((w.alloc (.cells #[.int .u64 0, .int .u64 0] 33)).alloc (.cells #[.bool false] 4)).heap.size = w.heap.size + 2 := by simp
  generalize (w.alloc (.cells #[.int .u64 0, .int .u64 0] 33)).alloc (.cells #[.bool false] 4) = W1 at b2 b3 hB0 hsz ⊢
  have bS : (W1.alloc (.cells #[.slice A0 l0.length c0] 23)).heap[w.heap.size + 1 + 1]? = some (.cells #[.slice A0 l0.length c0] 23 (0, 0)) := by rw [← hsz]; exact blk_new W1 _
  have c2 : (W1.alloc (.cells #[.slice A0 l0.length c0] 23)).heap[w.heap.size]? = some (.cells #[.int .u64 0, .int .u64 0] 33 (0, 0)) := blk_alloc b2 _
  have c3 : (W1.alloc (.cells #[.slice A0 l0.length c0] 23)).heap[w.heap.size + 1]? = some (.cells #[.bool false] 4 (0, 0)) := blk_alloc b3 _
  have hB2 : Below w.heap.size w (W1.alloc (.cells #[.slice A0 l0.length c0] 23)) := below_alloc hB0 _
  have hsz2 : (W1.alloc (.cells #[.slice A0 l0.length c0] 23)).heap.size = w.heap.size + 3 := by simp; omega

  generalize W1.alloc (.cells #[.slice A0 l0.length c0] 23) = W0 at bS c2 c3 hB2 hsz2 ⊢
  clear b2 b3 hB0 hsz
  refine wpIn_rangeFunc_ownH rfl (by decide) (gf := 38) (lb := #[.pointer (some ⟨w.heap.size + 1 + 1, 0, none⟩)]) rfl trivial (enters_of Try.func38 (by kernel_rfl) rfl)
    (back_stops Fence.wide (9 - 1) trivial rfl (by decide) (w.heap.size + 1 + 1) A0 c0 l0 w W0 HR.out hB2 bS) KpR_t (KpR_b (by omega) (by omega)) (Below.refl _ _) (fun _ => rfl)
    (fun pre W => ((W.heap[w.heap.size]? = some (.cells #[.int .u64 0, .int .u64 0] 33 (0, 0)) ∧ W.heap[w.heap.size + 1]? = some (.cells #[.bool false] 4 (0, 0)) ∧ W.heap[w.heap.size + 1 + 1]? = some (.cells #[.slice A0 l0.length c0] 23 (0, 0))) ∧ (∀ x ∈ pre, x.2.f1.f0 = 0 ∧ x.2.f1.f1 = 0)) ∧ Below w.heap.size w W)
    (fun c pre W => (∃ (pre' : List (Nat × S39)) (x : Nat × S39), (c = .ret ∧ pre = pre' ++ [x] ∧ (∀ y ∈ pre', y.2.f1.f0 = 0 ∧ y.2.f1.f1 = 0) ∧ ¬ (x.2.f1.f0 = 0 ∧ x.2.f1.f1 = 0)) ∧ W.heap[w.heap.size]? = some (.cells #[.int .u64 x.2.f1.f0, .int .u64 x.2.f1.f1] 33 (0, 0)) ∧ W.heap[w.heap.size + 1]? = some (.cells #[.bool true] 4 (0, 0))) ∧ Below w.heap.size w W)
    (OwnFrom.and (OwnFrom.and (OwnFrom.and (Own.from (XIn.blk_own _ _ _) _) (OwnFrom.and (Own.from (XIn.blk_own _ _ _) _) (Own.from (XIn.blk_own _ _ _) _))) (fun _ _ _ _ hs _ _ => hs)) (ownFrom_below (Nat.le_refl _) (by omega)))
    (fun c => OwnFrom.and (fun s X Y row hs hg hr => by
      obtain ⟨pre', x, h1, h2, h3⟩ := hs
      exact ⟨pre', x, h1, XIn.blk_own (β := Unit) _ _ (fun _ => _) () X Y row h2 hg (fun r e => (hr r e).2), XIn.blk_own (β := Unit) _ _ (fun _ => _) () X Y row h3 hg (fun r e => (hr r e).2)⟩) (ownFrom_below (Nat.le_refl _) (by omega)))
    ⟨⟨⟨c2, c3, bS⟩, fun x hx => by cases hx⟩, hB2⟩
    (fun x a' W => ∃ Bx, w.heap.size + 1 < Bx ∧ W.heap[Bx]? = some (.cells #[.int .i64 x.2.f0, .int .u64 x.2.f1.f0, .int .u64 x.2.f1.f1, .int .u64 x.2.f2.f0, .int .u64 x.2.f2.f1, .string x.2.f3, .bool x.2.f4] 39 (0, 0)) ∧ a' = { tmps := #[.slice A0 l0.length c0, undef, .pointer (some ⟨w.heap.size, 0, none⟩), .pointer (some ⟨w.heap.size + 1, 0, none⟩), undef, .pointer (some ⟨Bx, 0, none⟩), .slice A0 l0.length c0, .func (.func 38) #[] #[.pointer (some ⟨w.heap.size + 1 + 1, 0, none⟩)], .int .i64 (x.1 : Int), .agg #[.int .i64 x.2.f0, .int .u64 x.2.f1.f0, .int .u64 x.2.f1.f1, .int .u64 x.2.f2.f0, .int .u64 x.2.f2.f1, .string x.2.f3, .bool x.2.f4], undef, undef, undef, undef, undef, undef, undef], defers := [] })
    (fun x a' _ X Y row hs hg hr => by obtain ⟨Bx, h1, h2, h3⟩ := hs; exact ⟨Bx, h1, XIn.blk_own (β := Unit) Bx _ (fun _ => _) () X Y row h2 hg (fun r e => (hr r e).2), h3⟩)
    ?assign ?body ?done ?stop
  case assign =>
    rintro l pre x W K ⟨⟨⟨d2, d3, dS⟩, hz⟩, hB1⟩ hK
    unfold encR
    have hnb := blk_new W (.cells #[.int .i64 0, .int .u64 0, .int .u64 0, .int .u64 0, .int .u64 0, .string (⟨#[]⟩ : ByteArray), .bool false] 39)
    have HNB := Aside0.mk hnb
    have HD2 := Aside0.mk d2
    have HD3 := Aside0.mk d3
    have HDS := Aside0.mk dS
    have HB1 := Aside0.mk hB1
    have HZ := Aside0.mk hz
    clear hnb d2 d3 dS hB1 hz
    gi_wp2_with ((with_reducible refine XIn.gate_store (p := 5) rfl ?_); refine XIn.storeIn_ rfl rfl 39 rfl W.heap.size rfl _ #[.int .i64 x.2.f0, .int .u64 x.2.f1.f0, .int .u64 x.2.f1.f1, .int .u64 x.2.f2.f0, .int .u64 x.2.f2.f1, .string x.2.f3, .bool x.2.f4] rfl HNB.out hi39 (Eq.refl 7) (by simp [Value.oneCell']) ?_; intro W2 hw1 hw2 hw3; have HW1 := Aside0.mk hw1; have HW2 := Aside0.mk hw2; have HW3 := Aside0.mk hw3; clear hw1 hw2 hw3)
    have hBW : Below W.heap.size W W2 := ((Below.refl W.heap.size W).alloc (Nat.le_refl _) _).trans (HW2.out _ (Nat.le_refl _))
    have hbs := blk_lt HDS.out
    have hd2 := blk_lt HD3.out
    exact hK _ _ ((XIn.keeps_below hBW).from _) ⟨hBW.mono HB1.out.size, hBW.block _ hbs⟩ ⟨⟨⟨blk_below HD2.out hBW, blk_below HD3.out hBW, blk_below HDS.out hBW⟩, HZ.out⟩, HB1.out.trans (hBW.mono HB1.out.size)⟩ ⟨W.heap.size, hd2, HW1.out, rfl⟩
  case body =>
    rintro l pre x a' W hl ⟨r, hrec⟩ ⟨⟨⟨d2, d3, dS⟩, hz⟩, hB1⟩ ⟨Bx, hBx, bX, rfl⟩ hlt
    have HD2 := Aside0.mk d2
    have HD3 := Aside0.mk d3
    have HDS := Aside0.mk dS
    have HB1 := Aside0.mk hB1
    have HZ := Aside0.mk hz
    have HBX := Aside0.mk hBx
    obtain ⟨x0, y0⟩ := x
    by_cases hz1 : y0.f1.f0 = 0 ∧ y0.f1.f1 = 0
    · have hcx1 : W.cell? ⟨Bx, 1, none⟩ = some (.int .u64 0) := (blk_cell bX 1).trans (by rw [← hz1.1]; rfl)
      have hcx2 : W.cell? ⟨Bx, 2, none⟩ = some (.int .u64 0) := (blk_cell bX 2).trans (by rw [← hz1.2]; rfl)
      have HZ1 := Aside0.mk hz1
      clear d2 d3 dS hB1 hz bX hz1 hBx hrec
      gi_wp2
      exact ⟨KeepsFrom.refl _ _, ⟨Below.refl _ _, rfl⟩, ⟨⟨⟨HD2.out, HD3.out, HDS.out⟩, fun z hz => by
        rcases List.mem_append.1 hz with hz | hz
        · exact HZ.out z hz
        · obtain rfl := List.mem_singleton.1 hz; exact HZ1.out⟩, HB1.out⟩⟩
    · obtain ⟨u0, hu0⟩ : ∃ u0, u0 = y0.f1.f0 := ⟨_, rfl⟩
      obtain ⟨u1, hu1⟩ : ∃ u1, u1 = y0.f1.f1 := ⟨_, rfl⟩
      have hcx1 : W.cell? ⟨Bx, 1, none⟩ = some (.int .u64 u0) := (blk_cell bX 1).trans (by rw [hu0]; rfl)
      have hcx2 : W.cell? ⟨Bx, 2, none⟩ = some (.int .u64 u1) := (blk_cell bX 2).trans (by rw [hu1]; rfl)
      have HZ1 := Aside0.mk hz1
      have HU0 := Aside0.mk hu0
      have HU1 := Aside0.mk hu1
      have hc20 := (blk_cell d2 0).trans rfl
      have hc21 := (blk_cell d2 1).trans rfl
      have hf20 := blk_frozen d2 0
      have hf21 := blk_frozen d2 1
      have hc3 := (blk_cell d3 0).trans rfl
      have hf3 := blk_frozen d3 0
      clear d2 d3 dS hB1 hz bX hBx hrec
      have hcase : ((u0 = 0) = False ∧ (u0 == 0) = false) ∨ (u0 = 0 ∧ ((u1 = 0) = False) ∧ (u1 == 0) = false) := by
        by_cases h0 : u0 = 0
        · have h1 : ¬ u1 = 0 := fun h1 => hz1 ⟨hu0 ▸ h0, hu1 ▸ h1⟩
          exact .inr ⟨h0, eq_false h1, by simpa using h1⟩
        · exact .inl ⟨eq_false h0, by simpa using h0⟩
      clear hz1 hu0 hu1
      rcases hcase with ⟨h0, h0b⟩ | ⟨rfl, h1, h1b⟩
      all_goals
        gi_wp2
        refine ⟨(((KeepsOthers.setCell _ _ _).trans (KeepsOthers.setCell _ _ _)).trans (KeepsOthers.setCell _ _ _)).from _, ⟨pre, (x0, y0), ⟨rfl, rfl, HZ.out, HZ1.out⟩, ?_, ?_⟩, HB1.out.trans ((((Below.refl _ _).setCell (p := ⟨w.heap.size, 0, none⟩) (Nat.le_refl _) _).setCell (p := ⟨w.heap.size, 1, none⟩) (Nat.le_refl _) _).setCell (p := ⟨w.heap.size + 1, 0, none⟩) (Nat.le_succ _) _)⟩
        · have e := blk_far (blk_put (blk_put HD2.out 0 (.int .u64 y0.f1.f0) rfl) 1 (.int .u64 y0.f1.f1) rfl) (p := ⟨w.heap.size + 1, 0, none⟩) (show w.heap.size ≠ w.heap.size + 1 by omega) (.bool true)
          rw [← HU0.out, ← HU1.out] at e ⊢
          exact e
        · exact blk_put (blk_far (blk_far HD3.out (p := ⟨w.heap.size, 0, none⟩) (show w.heap.size + 1 ≠ w.heap.size by omega) _) (p := ⟨w.heap.size, 1, none⟩) (show w.heap.size + 1 ≠ w.heap.size by omega) _) 0 (.bool true) rfl
  case done =>
    rintro D ys W hD rfl ⟨⟨⟨d2, d3, dS⟩, hz⟩, hB1⟩ hK
    have hc20 := (blk_cell d2 0).trans rfl
    have hc21 := (blk_cell d2 1).trans rfl
    have hf20 := blk_frozen d2 0
    have hf21 := blk_frozen d2 1
    have hc3 := (blk_cell d3 0).trans rfl
    have hf3 := blk_frozen d3 0
    have HD2 := Aside0.mk d2
    have HD3 := Aside0.mk d3
    have HB1 := Aside0.mk hB1
    have HK := Aside0.mk hK
    have HD := Aside0.mk hD
    have hres := relay_Link.l_zero l0.reverse (fun x hx => by
      have e := bwd_rev l0 l0.length (Nat.le_refl _)
      rw [List.take_of_length_le (by simp)] at e
      rw [← e] at hx
      obtain ⟨y, hy, rfl⟩ := List.mem_map.1 hx
      exact hz y hy)
    rw [hres] at HH
    have hh := HH.out
    simp only [Prod.mk.injEq] at hh
    obtain ⟨rfl, rfl, rfl⟩ := hh
    clear d2 d3 dS hz hB1 hK hres HH hD
    gi_wp2
    have eK : (((W.setCell ⟨w.heap.size, 0, none⟩ (.int .u64 0)).setCell ⟨w.heap.size, 1, none⟩ (.int .u64 0)).setCell ⟨w.heap.size + 1, 0, none⟩ (.bool false)).heap[D]? = some (.deferred (some [])) := (((KeepsOthers.setCell _ _ _).trans (KeepsOthers.setCell _ _ _)).trans (KeepsOthers.setCell _ _ _)).same D _ HK.out rfl
    have e2 := blk_far (blk_put (blk_put HD2.out 0 (.int .u64 0) rfl) 1 (.int .u64 0) rfl) (p := ⟨w.heap.size + 1, 0, none⟩) (show w.heap.size ≠ w.heap.size + 1 by omega) (.bool false)
    have e3 := blk_put (blk_far (blk_far HD3.out (p := ⟨w.heap.size, 0, none⟩) (show w.heap.size + 1 ≠ w.heap.size by omega) (.int .u64 0)) (p := ⟨w.heap.size, 1, none⟩) (show w.heap.size + 1 ≠ w.heap.size by omega) (.int .u64 0)) 0 (.bool false) rfl
    have eB : Below w.heap.size W (((W.setCell ⟨w.heap.size, 0, none⟩ (.int .u64 0)).setCell ⟨w.heap.size, 1, none⟩ (.int .u64 0)).setCell ⟨w.heap.size + 1, 0, none⟩ (.bool false)) := (((Below.refl _ _).setCell (p := ⟨w.heap.size, 0, none⟩) (Nat.le_refl _) _).setCell (p := ⟨w.heap.size, 1, none⟩) (Nat.le_refl _) _).setCell (p := ⟨w.heap.size + 1, 0, none⟩) (Nat.le_succ _) _
    generalize ((W.setCell ⟨w.heap.size, 0, none⟩ (.int .u64 0)).setCell ⟨w.heap.size, 1, none⟩ (.int .u64 0)).setCell ⟨w.heap.size + 1, 0, none⟩ (.bool false) = WF at eK e2 e3 eB ⊢
    refine ⟨by simp, .inl ⟨_, _, rfl, run_takeDeferred eK, ?_⟩⟩
    exact relay_Link.ends w W WF D _ _ _ HB1.out eB HD.out eK e2 e3 rfl rfl hsz2
  case stop =>
    rintro D c pre W hD ⟨k, hk, rfl⟩ ⟨⟨pre', x, ⟨rfl, hp, hz, hx⟩, d2, d3⟩, hB1⟩ hK
    have hres : relay_Link.l l0.reverse = (x.2.f1.f0, x.2.f1.f1, true) := by
      have e := bwd_rev l0 k hk
      rw [hp] at e
      simp only [List.map_append, List.map_cons, List.map_nil] at e
      rw [← List.take_append_drop k l0.reverse, ← e, List.append_assoc, List.singleton_append]
      refine relay_Link.l_hit _ _ _ (fun y hy => ?_) hx
      obtain ⟨z, hz1, rfl⟩ := List.mem_map.1 hy
      exact hz z hz1
    rw [hres] at HH
    have hh := HH.out
    simp only [Prod.mk.injEq] at hh
    obtain ⟨rfl, rfl, rfl⟩ := hh
    clear hres HH hz hx hp
    gi_wp2
    refine ⟨by simp, .inl ⟨_, _, rfl, run_takeDeferred hK, ?_⟩⟩
    exact relay_Link.ends w W W D _ _ _ hB1 (Below.refl _ _) hD hK d2 d3 rfl rfl hsz2
end
theorem relay_Link.calls (A0 : Option Addr) (c0 : Nat) (l0 : List S39) (r1 : Int) (r2 : Int) (r3 : Bool) (w : World) (hr0 : Kd.C k39 w A0 l0.length l0) (hc0 : l0.length ≤ c0) (h : relay_Link.f l0 = some (r1, r2, r3)) :
    Calls Try.prog 15 #[.slice A0 l0.length c0] w fun e w' => e = .returned (.tuple #[.agg #[.int .u64 r1, .int .u64 r2], .bool r3]) ∧ Below w.heap.size w w' :=
  callsIn_wide.1 (relay_Link.in_ A0 c0 l0 r1 r2 r3 w hr0 (Option.some.inj h).symm)

/-! ### tenancylaw17_awake: function 9 -/
def tenancylaw17_awake.f (k : Nat)  : Option (Bool) := (some (([(⟨0, (⟨1, 0⟩ : S33), (⟨0, 2⟩ : S33), (⟨#[101]⟩ : ByteArray), true⟩ : S39)] : List (S39)) : List (S39))).bind fun y186 => ((relay_Wrap.f 13 y186 (⟨#[109]⟩ : ByteArray)).bind fun bt189 => ((relay_Unwrap.f k 13 bt189.1).bind fun bt191 => ((relay_Link.f y186).bind fun bt196 => (if bt189.1.toList = ([13, 0, 0, 0, 0, 0, 0, 0, 0, 1, 0, 0, 0, 0, 0, 0, 0, 0, 0, 0, 0, 0, 0, 0, 0, 0, 0, 0, 0, 0, 0, 0, 0, 2, 0, 18, 0, 1, 101, 0, 9, 0, 1, 109] : List UInt8) then (if bt189.2 = 0 then ((tenancylaw17_same.f k bt191.1 y186).bind fun t200 => (if t200 = true then (if bt191.2.1.toList = ([109] : List UInt8) then (if bt191.2.2 = 0 then (if (bt196.1 == 1 && (bt196.2.1 == 0)) = true then (some bt196.2.2) else (none)) else (none)) else (none)) else (none))) else (none)) else (none)))))
theorem tenancylaw17_awake.mono : ∀ k, LeO (tenancylaw17_awake.f k ) (tenancylaw17_awake.f (k + 1) ) := by
  intro  k
  unfold tenancylaw17_awake.f
  repeat' first
      | (with_reducible exact relay_Unwrap.mono _ _ _)
      | (with_reducible exact tenancylaw17_same.mono _ _ _)
      | (with_reducible exact LeO.refl _)
      | (with_reducible exact LeO.none _)
      | (with_reducible refine LeO.ite ?_ ?_)
      | (with_reducible refine LeO.bind ?_ (fun _ => ?_))
      | exact relay_Unwrap.mono _ _ _
      | exact tenancylaw17_same.mono _ _ _
      | exact LeO.none _
      | refine LeO.ite ?_ ?_
      | refine LeO.bind ?_ (fun _ => ?_)
set_option maxHeartbeats 8000000 in
set_option maxRecDepth 100000 in
theorem tenancylaw17_awake.calls (k : Nat)  (r : Bool) (w : World) (h : tenancylaw17_awake.f k  = some r) :
    Calls Try.prog 9 #[] w fun e w' => e = .returned (.bool r) ∧ Below w.heap.size w w' := by
  have hu33 := Try.underlying33
  have hu39 := Try.underlying39
  have HB := Aside0.mk (Below.refl w.heap.size w)
  have H : ((some (([(⟨0, (⟨1, 0⟩ : S33), (⟨0, 2⟩ : S33), (⟨#[101]⟩ : ByteArray), true⟩ : S39)] : List (S39)) : List (S39))).bind fun y186 => ((relay_Wrap.f 13 y186 (⟨#[109]⟩ : ByteArray)).bind fun bt189 => ((relay_Unwrap.f k 13 bt189.1).bind fun bt191 => ((relay_Link.f y186).bind fun bt196 => (if bt189.1.toList = ([13, 0, 0, 0, 0, 0, 0, 0, 0, 1, 0, 0, 0, 0, 0, 0, 0, 0, 0, 0, 0, 0, 0, 0, 0, 0, 0, 0, 0, 0, 0, 0, 0, 2, 0, 18, 0, 1, 101, 0, 9, 0, 1, 109] : List UInt8) then (if bt189.2 = 0 then ((tenancylaw17_same.f k bt191.1 y186).bind fun t200 => (if t200 = true then (if bt191.2.1.toList = ([109] : List UInt8) then (if bt191.2.2 = 0 then (if (bt196.1 == 1 && (bt196.2.1 == 0)) = true then (some bt196.2.2) else (none)) else (none)) else (none)) else (none))) else (none)) else (none)))))) = some r := h
  clear h
  obtain ⟨y186, hy186⟩ : ∃ y_ : List (S39), y_ = (([(⟨0, (⟨1, 0⟩ : S33), (⟨0, 2⟩ : S33), (⟨#[101]⟩ : ByteArray), true⟩ : S39)] : List (S39))) := ⟨_, rfl⟩
  replace H : ((relay_Wrap.f 13 y186 (⟨#[109]⟩ : ByteArray)).bind fun bt189 => ((relay_Unwrap.f k 13 bt189.1).bind fun bt191 => ((relay_Link.f y186).bind fun bt196 => (if bt189.1.toList = ([13, 0, 0, 0, 0, 0, 0, 0, 0, 1, 0, 0, 0, 0, 0, 0, 0, 0, 0, 0, 0, 0, 0, 0, 0, 0, 0, 0, 0, 0, 0, 0, 0, 2, 0, 18, 0, 1, 101, 0, 9, 0, 1, 109] : List UInt8) then (if bt189.2 = 0 then ((tenancylaw17_same.f k bt191.1 y186).bind fun t200 => (if t200 = true then (if bt191.2.1.toList = ([109] : List UInt8) then (if bt191.2.2 = 0 then (if (bt196.1 == 1 && (bt196.2.1 == 0)) = true then (some bt196.2.2) else (none)) else (none)) else (none)) else (none))) else (none)) else (none))))) = some r := by first | (rw [hy186]; with_reducible exact H) | (have H2_ := (Option.bind_some _ _).symm.trans H; rw [hy186]; with_reducible exact H2_) | (have H2_ := (Option.bind_some _ _).symm.trans H; with_reducible exact H2_) | with_reducible exact H | (rw [hy186]; exact H) | exact H
  have Ny186 := Aside0.mk hy186
  clear hy186
  replace H := Option.bind_eq_some_iff.mp H
  obtain ⟨⟨t189, t190⟩, A10, H⟩ := H
  replace H : ((relay_Unwrap.f k 13 t189).bind fun bt191 => ((relay_Link.f y186).bind fun bt196 => (if t189.toList = ([13, 0, 0, 0, 0, 0, 0, 0, 0, 1, 0, 0, 0, 0, 0, 0, 0, 0, 0, 0, 0, 0, 0, 0, 0, 0, 0, 0, 0, 0, 0, 0, 0, 2, 0, 18, 0, 1, 101, 0, 9, 0, 1, 109] : List UInt8) then (if t190 = 0 then ((tenancylaw17_same.f k bt191.1 y186).bind fun t200 => (if t200 = true then (if bt191.2.1.toList = ([109] : List UInt8) then (if bt191.2.2 = 0 then (if (bt196.1 == 1 && (bt196.2.1 == 0)) = true then (some bt196.2.2) else (none)) else (none)) else (none)) else (none))) else (none)) else (none)))) = some r := H
  have A1 := Aside0.mk A10
  clear A10
  replace H := Option.bind_eq_some_iff.mp H
  obtain ⟨⟨t191, t192, t193⟩, A20, H⟩ := H
  replace H : ((relay_Link.f y186).bind fun bt196 => (if t189.toList = ([13, 0, 0, 0, 0, 0, 0, 0, 0, 1, 0, 0, 0, 0, 0, 0, 0, 0, 0, 0, 0, 0, 0, 0, 0, 0, 0, 0, 0, 0, 0, 0, 0, 2, 0, 18, 0, 1, 101, 0, 9, 0, 1, 109] : List UInt8) then (if t190 = 0 then ((tenancylaw17_same.f k t191 y186).bind fun t200 => (if t200 = true then (if t192.toList = ([109] : List UInt8) then (if t193 = 0 then (if (bt196.1 == 1 && (bt196.2.1 == 0)) = true then (some bt196.2.2) else (none)) else (none)) else (none)) else (none))) else (none)) else (none))) = some r := H
  have A2 := Aside0.mk A20
  clear A20
  replace H := Option.bind_eq_some_iff.mp H
  obtain ⟨⟨t196, t197, t198⟩, A30, H⟩ := H
  replace H : (if t189.toList = ([13, 0, 0, 0, 0, 0, 0, 0, 0, 1, 0, 0, 0, 0, 0, 0, 0, 0, 0, 0, 0, 0, 0, 0, 0, 0, 0, 0, 0, 0, 0, 0, 0, 2, 0, 18, 0, 1, 101, 0, 9, 0, 1, 109] : List UInt8) then (if t190 = 0 then ((tenancylaw17_same.f k t191 y186).bind fun t200 => (if t200 = true then (if t192.toList = ([109] : List UInt8) then (if t193 = 0 then (if (t196 == 1 && (t197 == 0)) = true then (some t198) else (none)) else (none)) else (none)) else (none))) else (none)) else (none)) = some r := H
  have A3 := Aside0.mk A30
  clear A30
  by_cases c4 : t189.toList = ([13, 0, 0, 0, 0, 0, 0, 0, 0, 1, 0, 0, 0, 0, 0, 0, 0, 0, 0, 0, 0, 0, 0, 0, 0, 0, 0, 0, 0, 0, 0, 0, 0, 2, 0, 18, 0, 1, 101, 0, 9, 0, 1, 109] : List UInt8)
  · rw [if_pos c4] at H
    have c4b0 : (t189.toList == ([13, 0, 0, 0, 0, 0, 0, 0, 0, 1, 0, 0, 0, 0, 0, 0, 0, 0, 0, 0, 0, 0, 0, 0, 0, 0, 0, 0, 0, 0, 0, 0, 0, 2, 0, 18, 0, 1, 101, 0, 9, 0, 1, 109] : List UInt8)) = true := beq_iff_eq.mpr c4
    have c4b1 : (t189.toList != ([13, 0, 0, 0, 0, 0, 0, 0, 0, 1, 0, 0, 0, 0, 0, 0, 0, 0, 0, 0, 0, 0, 0, 0, 0, 0, 0, 0, 0, 0, 0, 0, 0, 2, 0, 18, 0, 1, 101, 0, 9, 0, 1, 109] : List UInt8)) = false := bne_eq_false_iff_eq.mpr c4
    clear c4
    by_cases c5 : t190 = 0
    · rw [if_pos c5] at H
      have c5b0 : (t190 == 0) = true := beq_iff_eq.mpr c5
      have c5b1 : (t190 != 0) = false := bne_eq_false_iff_eq.mpr c5
      clear c5
      replace H := Option.bind_eq_some_iff.mp H
      obtain ⟨t200, A60, H⟩ := H
      replace H : (if t200 = true then (if t192.toList = ([109] : List UInt8) then (if t193 = 0 then (if (t196 == 1 && (t197 == 0)) = true then (some t198) else (none)) else (none)) else (none)) else (none)) = some r := H
      have A6 := Aside0.mk A60
      clear A60
      by_cases c7 : t200 = true
      · subst c7
        have H1 : (if t192.toList = ([109] : List UInt8) then (if t193 = 0 then (if (t196 == 1 && (t197 == 0)) = true then (some t198) else (none)) else (none)) else (none)) = some r := by rw [if_pos rfl] at H; exact H
        clear H
        have H := H1
        clear H1
        by_cases c8 : t192.toList = ([109] : List UInt8)
        · rw [if_pos c8] at H
          have c8b0 : (t192.toList == ([109] : List UInt8)) = true := beq_iff_eq.mpr c8
          have c8b1 : (t192.toList != ([109] : List UInt8)) = false := bne_eq_false_iff_eq.mpr c8
          clear c8
          by_cases c9 : t193 = 0
          · rw [if_pos c9] at H
            have c9b0 : (t193 == 0) = true := beq_iff_eq.mpr c9
            have c9b1 : (t193 != 0) = false := bne_eq_false_iff_eq.mpr c9
            clear c9
            by_cases c10 : (t196 == 1 && (t197 == 0)) = true
            · rw [if_pos c10] at H
              have c10b0 : (t196 == 1 && (t197 == 0)) = true := c10
              (try (have c10b1 : decide (t196 = 1 && (t197 == 0)) = true := by simpa using c10))
              (try (have c10b2 : (t196 == 1 && (t197 == 0)) = true := by simpa using c10))
              clear c10
              obtain rfl := Option.some.inj H
              go_enter Try.func9, Try.ntmps9
              go_wp2_with (first | ((with_reducible refine gate_dst (N := 12) rfl ?_); refine Kd.R_lit k39 _ 39 ?hg (N := 12) ?hd (xs := ([(⟨0, (⟨1, 0⟩ : S33), (⟨0, 2⟩ : S33), (⟨#[101]⟩ : ByteArray), true⟩ : S39)] : List (S39))) (inner := [.int .i64 0, .int .u64 1, .int .u64 0, .int .u64 0, .int .u64 2, .string (⟨#[101]⟩ : ByteArray), .bool true]) (ok := fun _ => True) (okp := fun _ => True) ?hr ?hp (fun _ hk => hk) trivial (Below.refl _ _) (Nat.le_refl _) (by simp) ?_; (case hd => rfl); (case hg => rfl); (case hr => first | (go_simp; done) | (go_simp; rfl)); (case hp => exact (Reps.c7 (show Kd.M k39 _ _ _ (⟨0, (⟨1, 0⟩ : S33), (⟨0, 2⟩ : S33), (⟨#[101]⟩ : ByteArray), true⟩ : S39) [.int .i64 0, .int .u64 1, .int .u64 0, .int .u64 0, .int .u64 2, .string (⟨#[101]⟩ : ByteArray), .bool true] from (k39_mkM _ _ _ (⟨0, (⟨1, 0⟩ : S33), (⟨0, 2⟩ : S33), (⟨#[101]⟩ : ByteArray), true⟩ : S39) )) (Reps.none _ _))); intro v187 w11 ho12 hb hg_ hnew_; clear hg_ hnew_; (first | rw [← Ny186.out] at ho12 | (simp only [Int.reduceToNat] at ho12; rw [← Ny186.out] at ho12)); have n0_ := Aside0.mk (Kd.R_lower ho12 (below_size (by repeat (first | (with_reducible first | exact HB.out | apply below_alloc | apply pw_below_drewN | apply below_drew1) | exact HB.out)))); have n1_ := Aside0.mk (below_step (by repeat (first | (with_reducible first | exact HB.out | apply below_alloc | apply pw_below_drewN | apply below_drew1) | exact HB.out)) hb); clear HB; have HO188 := n0_; have HB := n1_; clear n0_ n1_; clear hb ho12; obtain ⟨Ao13, co13, eo13⟩ := Kd.R_slice HO188.out; subst eo13) | ((with_reducible refine gate_callee (f := 13) rfl ?_); refine goesL_ (some 15) rfl rfl Try.func13 (by kernel_rfl) rfl #[.int .i64 13, .slice Ao13 y186.length co13, .string (⟨#[109]⟩ : ByteArray)] rfl (by (try simp only [List.map_toArray, List.map_cons, List.map_nil]); first | done | rfl | (simp only [List.length_drop, List.length_take]; rfl)) ?_; (with_reducible refine (relay_Wrap.calls 13 _ _ y186 (⟨#[109]⟩ : ByteArray) t189 t190 _ ?side1 ?side2 A1.out).mono ?_); (case side1 => repeat (first | exact (Kd.R_reads' HO188.out).2.2 | (with_reducible refine Kd.C_alloc ?_ _) | (with_reducible refine Kd.C_drewN ?_ _) | (with_reducible refine Kd.C_drew ?_))); (case side2 => exact (Kd.R_reads' HO188.out).2.1); rintro e w14 ⟨rfl, hb⟩; refine ⟨_, rfl, ?_⟩; have n0_ := Aside0.mk (Kd.R_below (by (with_reducible repeat (first | apply Kd.R_alloc | apply Kd.R_drewN | apply Kd.R_drew)); exact HO188.out) hb); have n1_ := Aside0.mk (below_step (by repeat (first | (with_reducible first | exact HB.out | apply below_alloc | apply pw_below_drewN | apply below_drew1) | exact HB.out)) hb); clear HO188; clear HB; have HO188 := n0_; have HB := n1_; clear n0_ n1_; (try clear hb); (try clear hb2); (try clear hk); (try clear hi)) | ((with_reducible refine gate_callee (f := 10) rfl ?_); refine goesL_ (some 20) rfl rfl Try.func10 (by kernel_rfl) rfl #[.int .i64 13, .string t189] rfl (by (try simp only [List.map_toArray, List.map_cons, List.map_nil]); first | done | rfl | (simp only [List.length_drop, List.length_take]; rfl)) ?_; (with_reducible refine (relay_Unwrap.calls k 13 t189 t191 t192 t193 _ A2.out).mono ?_); rintro e w15 ⟨v194, rfl, ho0, hb⟩; refine ⟨_, rfl, ?_⟩; have n0_ := Aside0.mk (Kd.R_elder' (by (with_reducible repeat (first | apply Kd.R_alloc | apply Kd.R_drewN | apply Kd.R_drew)); exact HO188.out) (Kd.R_base ho0) hb); have n1_ := Aside0.mk (Kd.R_lower (Kd.R_new' ho0 (Kd.R_lt (by (with_reducible repeat (first | apply Kd.R_alloc | apply Kd.R_drewN | apply Kd.R_drew)); exact HO188.out))) (below_size (by repeat (first | (with_reducible first | exact HB.out | apply below_alloc | apply pw_below_drewN | apply below_drew1) | exact HB.out)))); have n2_ := Aside0.mk (below_step (by repeat (first | (with_reducible first | exact HB.out | apply below_alloc | apply pw_below_drewN | apply below_drew1) | exact HB.out)) hb); clear HO188; clear HB; have HO188 := n0_; have HO195 := n1_; have HB := n2_; clear n0_ n1_ n2_; (try clear hb); (try clear hb2); (try clear hk); (try clear hi); (try clear ho0)) | ((with_reducible refine gate_callee (f := 15) rfl ?_); refine goesL_ (some 26) rfl rfl Try.func15 (by kernel_rfl) rfl #[.slice Ao13 y186.length co13] rfl (by (try simp only [List.map_toArray, List.map_cons, List.map_nil]); first | done | rfl | (simp only [List.length_drop, List.length_take]; rfl)) ?_; (with_reducible refine (relay_Link.calls _ _ y186 t196 t197 t198 _ ?side1 ?side2 A3.out).mono ?_); (case side1 => repeat (first | exact (Kd.R_reads' HO188.out).2.2 | (with_reducible refine Kd.C_alloc ?_ _) | (with_reducible refine Kd.C_drewN ?_ _) | (with_reducible refine Kd.C_drew ?_))); (case side2 => exact (Kd.R_reads' HO188.out).2.1); rintro e w16 ⟨rfl, hb⟩; refine ⟨_, rfl, ?_⟩; have n0_ := Aside0.mk (Kd.R_below (by (with_reducible repeat (first | apply Kd.R_alloc | apply Kd.R_drewN | apply Kd.R_drew)); exact HO188.out) hb); have n1_ := Aside0.mk (Kd.R_below (by (with_reducible repeat (first | apply Kd.R_alloc | apply Kd.R_drewN | apply Kd.R_drew)); exact HO195.out) hb); have n2_ := Aside0.mk (below_step (by repeat (first | (with_reducible first | exact HB.out | apply below_alloc | apply pw_below_drewN | apply below_drew1) | exact HB.out)) hb); clear HO188; clear HO195; clear HB; have HO188 := n0_; have HO195 := n1_; have HB := n2_; clear n0_ n1_ n2_; (try clear hb); (try clear hb2); (try clear hk); (try clear hi)) | ((with_reducible refine gate_dst (N := 7) rfl ?_); refine box_event ?hg (N := 7) ?hd (cs := #[.int .u64 0, .int .u64 0]) (t := 33) ?hr ?_; (case hd => rfl); (case hg => rfl); (case hr => first | (go_simp; done) | (go_simp; rfl)); intro gb199 hg w17 hbox hb; have n0_ := Aside0.mk (Kd.R_below (by (with_reducible repeat (first | apply Kd.R_alloc | apply Kd.R_drewN | apply Kd.R_drew)); exact HO188.out) hb); have n1_ := Aside0.mk (Kd.R_below (by (with_reducible repeat (first | apply Kd.R_alloc | apply Kd.R_drewN | apply Kd.R_drew)); exact HO195.out) hb); have n2_ := Aside0.mk (below_step (by repeat (first | (with_reducible first | exact HB.out | apply below_alloc | apply pw_below_drewN | apply below_drew1) | exact HB.out)) hb); have n3_ := Aside0.mk (hbox); have n4_ := Aside0.mk ((by rw [hg]; exact (below_size (by repeat (first | (with_reducible first | exact HB.out | apply below_alloc | apply pw_below_drewN | apply below_drew1) | exact HB.out))) : w.heap.size ≤ gb199)); have n5_ := Aside0.mk ((by rw [hg]; exact (below_size (by repeat (first | (with_reducible first | exact HB.out | apply below_alloc | apply pw_below_drewN | apply below_drew1) | exact HB.out))) : w.heap.size ≤ gb199)); clear HO188; clear HO195; clear HB; have HO188 := n0_; have HO195 := n1_; have HB := n2_; have BK199 := n3_; have GW199 := n4_; have GE199 := n5_; clear n0_ n1_ n2_ n3_ n4_ n5_; clear hb hbox hg; have hcz18_0 : w17.cell? ⟨gb199, 0, none⟩ = some (.int .u64 0) := (blk_cell BK199.out 0).trans rfl; have hcz18_1 : w17.cell? ⟨gb199, 1, none⟩ = some (.int .u64 0) := (blk_cell BK199.out 1).trans rfl; have hfz18_0 := blk_frozen BK199.out 0; have hfz18_1 := blk_frozen BK199.out 1; obtain ⟨Ao19, co19, eo19⟩ := Kd.R_slice HO195.out; subst eo19) | (go_at_call 12; (with_reducible refine (tenancylaw17_same.calls k _ _ t191 _ _ y186 true _ ?side1 ?side2 ?side3 ?side4 A6.out).mono ?_); (case side1 => refine (Kd.R_reads' (e := 39) (base := w.heap.size) (ok := fun k_ => (True ∧ some k_ ≠ (.slice Ao13 y186.length co13 : Value).ownBlock)) (n := t191.length) (c := co19) ?_).2.2; exact (by (with_reducible repeat (first | apply Kd.R_alloc | apply Kd.R_drewN | apply Kd.R_drew)); exact (Kd.R_mono (Kd.R_far (p := ⟨gb199, 1, none⟩) (Kd.R_far (p := ⟨gb199, 0, none⟩) (Kd.R_types HO195.out BK199.out (by decide)) (fun _ hk => hk.2) (.int .u64 t196)) (fun _ hk => hk.2) (.int .u64 t197)) (fun _ h_ => h_.1)))); (case side2 => exact (Kd.R_reads' HO195.out).2.1); (case side3 => refine (Kd.R_reads' (e := 39) (base := w.heap.size) (ok := fun k_ => (True ∧ some k_ ≠ (.slice Ao19 t191.length co19 : Value).ownBlock)) (n := y186.length) (c := co13) ?_).2.2; exact (by (with_reducible repeat (first | apply Kd.R_alloc | apply Kd.R_drewN | apply Kd.R_drew)); exact (Kd.R_mono (Kd.R_far (p := ⟨gb199, 1, none⟩) (Kd.R_far (p := ⟨gb199, 0, none⟩) (Kd.R_types HO188.out BK199.out (by decide)) (fun _ hk => hk.2) (.int .u64 t196)) (fun _ hk => hk.2) (.int .u64 t197)) (fun _ h_ => h_.1)))); (case side4 => exact (Kd.R_reads' HO188.out).2.1); rintro e w' ⟨rfl, ⟨nd, rfl⟩⟩))
              go_ret
              exact ⟨by first | rfl | (simp [errW_none, errW_some] <;> rfl) | (simp [*, errW_none, errW_some] <;> rfl), by repeat (first | (with_reducible first | exact HB.out | apply below_alloc | apply pw_below_drewN | apply below_drew1 | refine below_set ?_ GE199.out) | exact HB.out)⟩
            · rw [if_neg c10] at H
              exact absurd H (by simp)
          · rw [if_neg c9] at H
            exact absurd H (by simp)
        · rw [if_neg c8] at H
          exact absurd H (by simp)
      · replace c7 := Bool.eq_false_iff.mpr c7
        subst c7
        have H1 : (none) = some r := by rw [if_neg (show ¬ (false = true) by decide)] at H; exact H
        clear H
        have H := H1
        clear H1
        exact absurd H (by simp)
    · rw [if_neg c5] at H
      exact absurd H (by simp)
  · rw [if_neg c4] at H
    exact absurd H (by simp)

end Go.Proofs.Ytfpamalmkmhpgaa.X
