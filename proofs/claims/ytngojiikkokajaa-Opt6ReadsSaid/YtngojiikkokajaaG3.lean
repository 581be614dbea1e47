/- Functions of the program as Lean functions, and that the calls come to them: no condition.  By this session's own program (wip/xprint). -/
import Derived.Test.YtngojiikkokajaaG0
import Derived.Test.YtngojiikkokajaaG1
import Derived.Test.YtngojiikkokajaaG2
namespace Go.Proofs.Ytngojiikkokajaa.X
open Go.RowKit Go.Proofs.YtngojiikkokajaaW.PrintWords Go.Proofs.YtngojiikkokajaaW.PrintLast Go.Proofs.YtngojiikkokajaaW.PrintMore
attribute [local go_sem] max2_int min2_int max_two min_two max_three min_three max_four min_four   -- for this text's walks alone
set_option linter.unusedVariables false
set_option linter.unusedSimpArgs false
attribute [local go_sem high] eqA40 eqA74
/-! ### opt6_PutIA: function 19: by hand -/
def putOne (k : Nat) (kind : Int) (x : S76) : Option ByteArray :=
  (octet_Put32.f k x.f1).bind fun p => (octet_Put32.f k x.f2).bind fun q => if (p ++ q).size ≤ 140737488355328 then (octet_PutAddr.f k x.f0.f0.f0 x.f0.f0.f1).bind fun wh => (opt6_status.f k x.f3).bind fun st =>
    if kind = 4 then (if (Lib.join ([p ++ q, strOfNums [x.f0.f1 % 256], wh, st].map (·.data.toList)) ([] : List UInt8)).length ≤ 140737488355328 then opt6_option.f 26 [p ++ q, strOfNums [x.f0.f1 % 256], wh, st] else none) else (if (Lib.join ([wh, p ++ q, st].map (·.data.toList)) ([] : List UInt8)).length ≤ 140737488355328 then opt6_option.f 5 [wh, p ++ q, st] else none) else none
def putEach (k : Nat) (kind : Int) : List S76 → ByteArray → Option ByteArray
  | [], acc => some acc
  | x :: l, acc => (putOne k kind x).bind fun s => if acc.size + s.size ≤ 140737488355328 then putEach k kind l (acc ++ s) else none
def putTail (k : Nat) (kind : Int) (l : List S76) (code : Int) (acc : ByteArray) : Option (Int × ByteArray × Int) :=
  (putEach k kind l acc).bind fun s => (opt6_status.f k code).bind fun st => if s.size + st.size ≤ 140737488355328 then (opt6_codeOf.f kind).bind fun c => some (c, s ++ st, 0) else none
def putK (k : Nat) (kind iaid t1 t2 : Int) (l : List S76) (code : Int) : Option (Int × ByteArray × Int) :=
  (soundK k kind iaid t1 t2 l code).bind fun ok => if ok = true then (octet_Put32.f k iaid).bind fun i => if i.size ≤ 140737488355328 then (if kind = 3 then putTail k kind l code ((⟨#[]⟩ : ByteArray) ++ i) else (octet_Put32.f k t1).bind fun p => (octet_Put32.f k t2).bind fun q => if (((⟨#[]⟩ : ByteArray) ++ i)).size + (p ++ q).size ≤ 140737488355328 then putTail k kind l code (((⟨#[]⟩ : ByteArray) ++ i) ++ (p ++ q)) else none) else none else some (0, (⟨#[]⟩ : ByteArray), 130)
theorem cells_three {w : World} {g : Nat} {a b c : ByteArray} (h : w.heap[g]? = some (.cells #[.string a, .string b, .string c] 9 (0, 0))) : ∀ (j : Nat) x, [a, b, c][j]? = some x → w.cell? ⟨g, 0 + j, none⟩ = some (.string x) := fun j x hx => by
  rw [Nat.zero_add]
  match j, hx with
  | 0, hx => obtain rfl := Option.some.inj hx; exact (blk_cell h 0).trans rfl
  | 1, hx => obtain rfl := Option.some.inj hx; exact (blk_cell h 1).trans rfl
  | 2, hx => obtain rfl := Option.some.inj hx; exact (blk_cell h 2).trans rfl
theorem blk_lower {w w' : World} {B g : Nat} {o : Obj} (h : w.heap[g]? = some o) (hb : Below B w w') (hg : g < B) : w'.heap[g]? = some o := (hb.block g hg).trans h
set_option maxHeartbeats 8000000 in
set_option maxRecDepth 100000 in
theorem putK_calls (k : Nat) (kind iaid t1 t2 : Int) (A4 : Option Addr) (c4 : Nat) (l4 : List S76) (code : Int) (r1 : Int) (r2 : ByteArray) (r3 : Int) (w : World) (hr : Kd.C k76 w A4 l4.length l4) (hc : l4.length ≤ c4) (h : putK k kind iaid t1 t2 l4 code = some (r1, r2, r3)) :
    Calls Try.prog 19 #[.agg #[.int .i64 kind, .int .u32 iaid, .int .u32 t1, .int .u32 t2, .slice A4 l4.length c4, .int .i64 code]] w fun e w' => e = .returned (.tuple #[.agg #[.int .u16 r1, .string r2], .int .i64 r3]) ∧ Below w.heap.size w w' := by
  unfold putK at h
  have HMX := Aside0.mk (show l4.length ≤ 9223372036854775807 from Kd.C_max hr)
  have HR := Aside0.mk hr
  have HC := Aside0.mk hc
  have hu37 := Try.underlying37
  have hu40 := Try.underlying40
  have hu76 := Try.underlying76
  have hu74 := Try.underlying74
  have hu72 := Try.underlying72
  have hi37 : (Try.prog.info? 37).map (·.size) = some 6 := by kernel_rfl
  have hi40 : (Try.prog.info? 40).map (·.size) = some 2 := by kernel_rfl
  have hi76 : (Try.prog.info? 76).map (·.size) = some 6 := by kernel_rfl
  obtain ⟨ok, hok, h⟩ := Option.bind_eq_some_iff.1 h
  have HOK := Aside0.mk hok
  have H := Aside0.mk h
  clear hr hc hok h
  go_enter Try.func19, Try.ntmps19
  go_upto_region 1 with fail
  have BA0 := Aside0.mk (blk_alloc (blk_new w (.cells #[.int .i64 kind, .int .u32 iaid, .int .u32 t1, .int .u32 t2, .slice A4 l4.length c4, .int .i64 code] 37)) (.cells #[.int .u16 0, .string (⟨#[]⟩ : ByteArray)] 40))
  have br := blk_new (w.alloc (.cells #[.int .i64 kind, .int .u32 iaid, .int .u32 t1, .int .u32 t2, .slice A4 l4.length c4, .int .i64 code] 37)) (.cells #[.int .u16 0, .string (⟨#[]⟩ : ByteArray)] 40)
  rw [World.size_alloc] at br
  have BR0 := Aside0.mk br
  have HB0 := Aside0.mk (below_alloc (below_alloc (Below.refl _ w) (.cells #[.int .i64 kind, .int .u32 iaid, .int .u32 t1, .int .u32 t2, .slice A4 l4.length c4, .int .i64 code] 37)) (.cells #[.int .u16 0, .string (⟨#[]⟩ : ByteArray)] 40))
  clear br
  generalize (w.alloc (.cells #[.int .i64 kind, .int .u32 iaid, .int .u32 t1, .int .u32 t2, .slice A4 l4.length c4, .int .i64 code] 37)).alloc (.cells #[.int .u16 0, .string (⟨#[]⟩ : ByteArray)] 40) = w2 at BA0 BR0 HB0 ⊢
  obtain ⟨ga, hga⟩ : ∃ ga, ga = w.heap.size := ⟨_, rfl⟩
  obtain ⟨gr, hgr⟩ : ∃ gr, gr = w.heap.size + 1 := ⟨_, rfl⟩
  have GA := Aside0.mk (show w.heap.size ≤ ga by omega)
  have GR := Aside0.mk (show w.heap.size ≤ gr by omega)
  have GAR := Aside0.mk (show ga ≠ gr by omega)
  have BA1 := Aside0.mk (show w2.heap[ga]? = some (.cells #[.int .i64 kind, .int .u32 iaid, .int .u32 t1, .int .u32 t2, .slice A4 l4.length c4, .int .i64 code] 37 (0, 0)) by rw [hga]; exact BA0.out)
  have BR1 := Aside0.mk (show w2.heap[gr]? = some (.cells #[.int .u16 0, .string (⟨#[]⟩ : ByteArray)] 40 (0, 0)) by rw [hgr]; exact BR0.out)
  rw [← hgr, ← hga]
  clear hga hgr BA0 BR0
  cases ok with
  | false =>
    have h := H.out
    rw [if_neg (by decide)] at h
    simp only [Option.some.injEq, Prod.mk.injEq] at h
    obtain ⟨rfl, rfl, rfl⟩ := h
    clear H
    go_wp2_with (first
      | ((with_reducible refine gate_dst (N := 9) rfl ?_); refine XBox.loadL_ 9 rfl rfl 37 rfl ga rfl _ BA1.out hu37 rfl hi37 ?_; simp only [Act.put, List.setIfInBounds_toArray, List.set_cons_zero, List.set_cons_succ])
      | (go_at_call 21; refine (soundK_calls k kind iaid t1 t2 A4 c4 l4 code false _ (Kd.C_below HR.out HB0.out) HC.out HOK.out).mono ?_; rintro e w3 ⟨rfl, hb⟩; have BR3 := Aside0.mk (blk_below BR1.out hb); have HB3 := Aside0.mk (below_step HB0.out hb); clear hb)
      | ((with_reducible refine gate_store (p := 2) rfl ?_); refine XBox.storeL_ rfl rfl 40 rfl gr rfl #[.int .u16 0, .string (⟨#[]⟩ : ByteArray)] #[.int .u16 0, .string (⟨#[]⟩ : ByteArray)] rfl BR3.out hi40 (Eq.refl 2) (by simp [Value.oneCell']) ?_; intro wv hw1 hw2 hw3; have BV := Aside0.mk hw1; have HV := Aside0.mk (HB3.out.trans (hw2 _ GR.out)); clear hw1 hw2 hw3))
    refine bodyPost_ret (results_ct rfl _ _ gr 40 #[.int .u16 0, .string (⟨#[]⟩ : ByteArray)] (0, 0) _ rfl BV.out hu40 rfl hi40) rfl ?_
    exact ⟨rfl, HV.out⟩
  | true =>
  have h := H.out
  rw [if_pos rfl] at h
  obtain ⟨i, hi, h⟩ := Option.bind_eq_some_iff.1 h
  by_cases hiz : i.size ≤ 140737488355328
  case neg => rw [if_neg hiz] at h; cases h
  rw [if_pos hiz] at h
  have HI := Aside0.mk hi
  have HIZ := Aside0.mk (show (⟨#[]⟩ : ByteArray).size + i.size ≤ 140737488355328 from by rw [show (⟨#[]⟩ : ByteArray).size = 0 from rfl]; omega)
  clear H hi hiz
  have H := Aside0.mk h
  clear h
  go_upto_region 4 with (first
    | ((with_reducible refine gate_dst (N := 9) rfl ?_); refine XBox.loadL_ 9 rfl rfl 37 rfl ga rfl _ BA1.out hu37 rfl hi37 ?_; simp only [Act.put, List.setIfInBounds_toArray, List.set_cons_zero, List.set_cons_succ])
    | (go_at_call 21; refine (soundK_calls k kind iaid t1 t2 A4 c4 l4 code true _ (Kd.C_below HR.out HB0.out) HC.out HOK.out).mono ?_; rintro e w3 ⟨rfl, hb⟩; have BA3 := Aside0.mk (blk_below BA1.out hb); have BR3 := Aside0.mk (blk_below BR1.out hb); have HB3 := Aside0.mk (below_step HB0.out hb); clear hb))
  have IS0 := Aside0.mk (Bld.Is.new 59 5 w3)
  have HBn := Aside0.mk (below_alloc HB3.out (.cells #[.pointer none, .slice none 0 0] 59))
  have BAn := Aside0.mk (blk_alloc BA3.out (.cells #[.pointer none, .slice none 0 0] 59))
  have BRn := Aside0.mk (blk_alloc BR3.out (.cells #[.pointer none, .slice none 0 0] 59))
  obtain ⟨gb, hgb⟩ : ∃ gb, gb = w3.heap.size := ⟨_, rfl⟩
  have GAB := Aside0.mk (show ga < gb by rw [hgb]; exact blk_lt BA3.out)
  have GRB := Aside0.mk (show gr < gb by rw [hgb]; exact blk_lt BR3.out)
  have GB := Aside0.mk (show w.heap.size ≤ gb by have := GA.out; have := GAB.out; omega)
  have SZ := Aside0.mk (show gb ≤ (w3.alloc (.cells #[.pointer none, .slice none 0 0] 59)).heap.size by rw [World.size_alloc]; omega)
  rw [← hgb]
  rw [← hgb] at IS0
  clear hgb
  generalize w3.alloc (.cells #[.pointer none, .slice none 0 0] 59) = w4 at IS0 HBn BAn BRn SZ ⊢
  have d1_ := (blk_cell BAn.out 1).trans rfl
  go_upto_region 5 with (first
    | (go_at_call 37; refine (octet_Put32.calls k iaid i _ HI.out).mono ?_; rintro e w5 ⟨rfl, hb⟩; have HB5 := Aside0.mk (below_step HBn.out hb); have BA5 := Aside0.mk (blk_below BAn.out hb); have BR5 := Aside0.mk (blk_below BRn.out hb); have IS5 := Aside0.mk (IS0.out.below hb); have SZ5 := Aside0.mk (Nat.le_trans SZ.out hb.size); clear hb)
    | (go_at_call 31; (with_reducible refine (bld_write gb gb (⟨#[]⟩ : ByteArray) i _ IS5.out HIZ.out SZ5.out).mono ?_); rintro e w6 ⟨rfl, is6, hb⟩; have IS6 := Aside0.mk is6; have HB6 := Aside0.mk (HB5.out.trans (hb.mono GB.out)); have BA6 := Aside0.mk (blk_lower BA5.out hb GAB.out); have BR6 := Aside0.mk (blk_lower BR5.out hb GRB.out); have SZ6 := Aside0.mk (Nat.le_trans SZ5.out hb.size); clear is6 hb))
  clear IS0 HBn BAn BRn SZ d1_ HB5 BA5 BR5 IS5 SZ5 BA3 BR3 HB3 BA1 BR1
  generalize (⟨#[]⟩ : ByteArray) ++ i = acc0 at IS6 H
  have d0_ := (blk_cell BA6.out 0).trans rfl
  go_upto_if 19 with fail
  go_cut [6] (fun s6 wc => ∃ acc : ByteArray, Aside0 (putTail k kind l4 code acc = some (r1, r2, r3)) ∧ Aside0 (Bld.Is 59 5 gb gb acc wc) ∧ Aside0 (Below w.heap.size w wc) ∧ Aside0 (wc.heap[ga]? = some (.cells #[.int .i64 kind, .int .u32 iaid, .int .u32 t1, .int .u32 t2, .slice A4 l4.length c4, .int .i64 code] 37 (0, 0))) ∧ Aside0 (wc.heap[gr]? = some (.cells #[.int .u16 0, .string (⟨#[]⟩ : ByteArray)] 40 (0, 0))) ∧ Aside0 (gb ≤ wc.heap.size))
  case first =>
    by_cases h3 : kind = 3
    · have hx := H.out
      rw [if_pos h3] at hx
      have HX := Aside0.mk hx
      clear hx
      subst h3
      go_wp2
      go_meet
      case rel => exact ⟨acc0, HX, IS6, HB6, BA6, BR6, SZ6⟩
    · have h := H.out
      rw [if_neg h3] at h
      have hb3 : (kind != 3) = true := by simpa using h3
      obtain ⟨p, hp, h⟩ := Option.bind_eq_some_iff.1 h
      obtain ⟨q, hq, h⟩ := Option.bind_eq_some_iff.1 h
      by_cases hz : acc0.size + (p ++ q).size ≤ 140737488355328
      case neg => rw [if_neg hz] at h; cases h
      rw [if_pos hz] at h
      go_upto_region 6 with fail
      refine putTimes _ rfl _ _ _ _ (by kernel_rfl) k ga gb kind iaid t1 t2 _ code acc0 p q rfl rfl BA6.out IS6.out SZ6.out hp hq hz ?_
      intro u v W hIs hb
      have BAW := Aside0.mk (blk_lower BA6.out hb GAB.out)
      have BRW := Aside0.mk (blk_lower BR6.out hb GRB.out)
      simp only [XReg.fills, List.foldl_cons, List.foldl_nil, Act.put, List.setIfInBounds_toArray, List.set_cons_zero, List.set_cons_succ]
      go_wp2
      go_meet
      case rel => exact ⟨_, ⟨h⟩, ⟨hIs⟩, ⟨HB6.out.trans (hb.mono GB.out)⟩, BAW, BRW, ⟨Nat.le_trans SZ6.out hb.size⟩⟩
  case rest =>
    clear H IS6 HB6 BA6 BR6 SZ6 d0_ acc0
    obtain ⟨acc, H, IS, HB, BA, BR, SZ⟩ := hcut
    have h := H.out
    unfold putTail at h
    obtain ⟨s, hs, h⟩ := Option.bind_eq_some_iff.1 h
    obtain ⟨st, hst, h⟩ := Option.bind_eq_some_iff.1 h
    by_cases hz : s.size + st.size ≤ 140737488355328
    case neg => rw [if_neg hz] at h; cases h
    rw [if_pos hz] at h
    obtain ⟨c, hcc, h⟩ := Option.bind_eq_some_iff.1 h
    simp only [Option.some.injEq, Prod.mk.injEq] at h
    obtain ⟨rfl, rfl, rfl⟩ := h
    have HS := Aside0.mk hs
    have HST := Aside0.mk hst
    have HZ := Aside0.mk hz
    have HCC := Aside0.mk hcc
    clear H hs hst hz hcc
    have d4_ := (blk_cell BA.out 4).trans rfl
    go_upto_region 8 with fail
    go_loopg [6, 7, 8, 31] l4.length (fun gg _ _ _ s31 wr => ∃ (kk : Nat) (ac : ByteArray), Aside0 (kk ≤ l4.length ∧ l4.length - kk ≤ gg) ∧ s31 = .int .i64 kk ∧ Aside0 (putEach k kind (l4.drop kk) ac = some s) ∧ Aside0 (Bld.Is 59 5 gb gb ac wr) ∧ Aside0 (Below w.heap.size w wr) ∧ Aside0 (wr.heap[ga]? = some (.cells #[.int .i64 kind, .int .u32 iaid, .int .u32 t1, .int .u32 t2, .slice A4 l4.length c4, .int .i64 code] 37 (0, 0))) ∧ Aside0 (wr.heap[gr]? = some (.cells #[.int .u16 0, .string (⟨#[]⟩ : ByteArray)] 40 (0, 0))) ∧ Aside0 (gb ≤ wr.heap.size))
    case atStart => exact ⟨0, acc, ⟨Nat.zero_le _, Nat.le_refl _⟩, rfl, by rw [List.drop_zero]; exact HS, IS, HB, BA, BR, SZ⟩
    case round =>
      clear HS IS HB BA BR SZ d4_
      obtain ⟨kk, ac, HK, rfl, HP, IS, HB, BA, BR, SZ⟩ := hrel
      by_cases hlt : kk < l4.length
      · obtain ⟨ad, hA, hx0, hx1, hx2, hx3, hx4, hx5⟩ := at_T76 (Kd.C_below HR.out HB.out) (kk : Int) (by omega) (by omega)
        subst hA
        simp only [Int.toNat_natCast] at hx0 hx1 hx2 hx3 hx4 hx5
        have hp := HP.out
        have hd : l4.drop kk = (rd_T76 l4 (kk : Int)) :: l4.drop (kk + 1) := by
          rw [List.drop_eq_getElem_cons hlt]
          simp [rd_T76, List.getD_eq_getElem?_getD, List.getElem?_eq_getElem hlt]
        rw [hd, putEach] at hp
        obtain ⟨x, hx⟩ : ∃ x, x = rd_T76 l4 (kk : Int) := ⟨_, rfl⟩
        rw [← hx] at hp hx0 hx1 hx2 hx3 hx4 hx5
        clear hd hx HP
        obtain ⟨so, ho, hp⟩ := Option.bind_eq_some_iff.1 hp
        by_cases hz : ac.size + so.size ≤ 140737488355328
        case neg => rw [if_neg hz] at hp; cases hp
        rw [if_pos hz] at hp
        unfold putOne at ho
        obtain ⟨p, hp1, ho⟩ := Option.bind_eq_some_iff.1 ho
        obtain ⟨q, hq1, ho⟩ := Option.bind_eq_some_iff.1 ho
        by_cases hz2 : (p ++ q).size ≤ 140737488355328
        case neg => rw [if_neg hz2] at ho; cases ho
        rw [if_pos hz2] at ho
        obtain ⟨wh, hwh, ho⟩ := Option.bind_eq_some_iff.1 ho
        obtain ⟨st2, hst2, ho⟩ := Option.bind_eq_some_iff.1 ho
        have HP := Aside0.mk hp
        have HZO := Aside0.mk hz
        have HP1 := Aside0.mk hp1
        have HQ1 := Aside0.mk hq1
        have HZ2 := Aside0.mk hz2
        have HWH := Aside0.mk hwh
        have HST2 := Aside0.mk hst2
        have HO := Aside0.mk ho
        have HLT := Aside0.mk hlt
        have hltz : (kk : Int) < (l4.length : Int) := by omega
        clear hp hz hp1 hq1 hz2 hwh hst2 ho hlt
        go_upto_region 10 with (first
          | ((with_reducible refine gate_dst (N := 6) rfl ?_); refine box_event ?hg (N := 6) ?hd (cs := #[.int .u64 0, .int .u64 0, .int .i64 0, .int .u32 0, .int .u32 0, .int .i64 0]) (t := 76) ?hr ?_; (case hd => rfl); (case hg => rfl); (case hr => first | (go_simp; done) | (go_simp; rfl)); intro gx hgx w8 hbox hb8; have BKz := Aside0.mk hbox; have HB8 := Aside0.mk hb8; have GE := Aside0.mk (Nat.le_of_eq hgx.symm); clear hgx hbox hb8)
          | ((with_reducible refine gate_store (p := 6) rfl ?_); refine XBox.storeL_ rfl rfl 76 rfl gx rfl #[.int .u64 0, .int .u64 0, .int .i64 0, .int .u32 0, .int .u32 0, .int .i64 0] #[.int .u64 x.f0.f0.f0, .int .u64 x.f0.f0.f1, .int .i64 x.f0.f1, .int .u32 x.f1, .int .u32 x.f2, .int .i64 x.f3] rfl BKz.out hi76 (Eq.refl 6) (by simp [Value.oneCell']) ?_; intro wb hw1 hw2 hw3; have BX0 := Aside0.mk hw1; have HBW := Aside0.mk (HB8.out.trans (hw2 _ GE.out)); clear hw1 hw2 hw3))
        have IS0 := Aside0.mk (IS.out.below HBW.out)
        have BA0 := Aside0.mk (blk_below BA.out HBW.out)
        have BR0 := Aside0.mk (blk_below BR.out HBW.out)
        have HB0 := Aside0.mk (below_step HB.out HBW.out)
        have SZ0 := Aside0.mk (Nat.le_trans SZ.out HBW.out.size)
        clear IS BA BR HB SZ HBW HB8 BKz GE hx0 hx1 hx2 hx3 hx4 hx5
        refine putPref _ rfl _ _ _ _ (by kernel_rfl) k gx x p q rfl BX0.out HP1.out HQ1.out HZ2.out ?_
        intro u W hb
        have IS := Aside0.mk (IS0.out.below hb)
        have BA := Aside0.mk (blk_below BA0.out hb)
        have BR := Aside0.mk (blk_below BR0.out hb)
        have HB := Aside0.mk (below_step HB0.out hb)
        have SZ := Aside0.mk (Nat.le_trans SZ0.out hb.size)
        have BX := Aside0.mk (blk_below BX0.out hb)
        clear hb IS0 BA0 BR0 HB0 SZ0 BX0
        simp only [XReg.fills, List.foldl_cons, List.foldl_nil, Act.put, List.setIfInBounds_toArray, List.set_cons_zero, List.set_cons_succ]
        have x0_ := (blk_cell BX.out 0).trans rfl
        have x1_ := (blk_cell BX.out 1).trans rfl
        have d0_ := (blk_cell BA.out 0).trans rfl
        by_cases h4 : kind = 4
        · subst h4
          have ho := HO.out
          rw [if_pos rfl] at ho
          by_cases hj : (Lib.join ([p ++ q, strOfNums [x.f0.f1 % 256], wh, st2].map (·.data.toList)) ([] : List UInt8)).length ≤ 140737488355328
          case neg => rw [if_neg hj] at ho; cases ho
          rw [if_pos hj] at ho
          have HO4 := Aside0.mk ho
          have HJ := Aside0.mk hj
          clear HO ho hj
          go_upto_region 13 with (go_at_call 38; refine (octet_PutAddr.calls k _ _ wh _ HWH.out).mono ?_; rintro e w9 ⟨rfl, hb⟩; have IS9 := Aside0.mk (IS.out.below hb); have BA9 := Aside0.mk (blk_below BA.out hb); have BR9 := Aside0.mk (blk_below BR.out hb); have HB9 := Aside0.mk (below_step HB.out hb); have SZ9 := Aside0.mk (Nat.le_trans SZ.out hb.size); have BX9 := Aside0.mk (blk_below BX.out hb); have e0_ := (blk_cell BA9.out 0).trans rfl; clear hb)
          refine putDeleg _ rfl _ _ _ _ (by kernel_rfl) k gx gb x ac (p ++ q) wh st2 so rfl rfl rfl rfl BX9.out IS9.out SZ9.out HST2.out HO4.out HJ.out HZO.out ?_
          intro u2 v2 W2 hIs hb
          have IS2 := Aside0.mk hIs
          have BA2 := Aside0.mk (blk_lower BA9.out hb GAB.out)
          have BR2 := Aside0.mk (blk_lower BR9.out hb GRB.out)
          have HB2 := Aside0.mk (HB9.out.trans (hb.mono GB.out))
          have SZ2 := Aside0.mk (Nat.le_trans SZ9.out hb.size)
          clear hIs hb IS9 BA9 BR9 HB9 SZ9 BX9 IS BA BR HB SZ BX x0_ x1_ d0_
          simp only [XReg.fills, List.foldl_cons, List.foldl_nil, Act.put, List.setIfInBounds_toArray, List.set_cons_zero, List.set_cons_succ]
          go_wp2
          go_roundg (l4.length - (kk + 1))
          case measure => have := HK.out; have := HLT.out; omega
          case rel => exact ⟨kk + 1, _, ⟨by have := HLT.out; omega, Nat.le_refl _⟩, by rw [Go.IntWalk.wrap64_in _ (by have := HLT.out; have := HMX.out; omega)]; rfl, HP, IS2, HB2, BA2, BR2, SZ2⟩
        · have ho := HO.out
          rw [if_neg h4] at ho
          by_cases hj : (Lib.join ([wh, p ++ q, st2].map (·.data.toList)) ([] : List UInt8)).length ≤ 140737488355328
          case neg => rw [if_neg hj] at ho; cases ho
          rw [if_pos hj] at ho
          have HO4 := Aside0.mk ho
          have HJ := Aside0.mk hj
          have hb4 : (kind == 4) = false := by simpa using h4
          have x5_ := (blk_cell BX.out 5).trans rfl
          clear HO ho hj h4
          go_wp2_with (first
            | (go_at_call 38; refine (octet_PutAddr.calls k _ _ wh _ HWH.out).mono ?_; rintro e w9 ⟨rfl, hb⟩; have IS9 := Aside0.mk (IS.out.below hb); have BA9 := Aside0.mk (blk_below BA.out hb); have BR9 := Aside0.mk (blk_below BR.out hb); have HB9 := Aside0.mk (below_step HB.out hb); have SZ9 := Aside0.mk (Nat.le_trans SZ.out hb.size); have BX9 := Aside0.mk (blk_below BX.out hb); have e0_ := (blk_cell BA9.out 0).trans rfl; have y5_ := (blk_cell BX9.out 5).trans rfl; clear hb)
            | (go_at_call 40; refine (opt6_status.calls k _ st2 _ HST2.out).mono ?_; rintro e w10 ⟨rfl, hb⟩; have IS10 := Aside0.mk (IS9.out.below hb); have BA10 := Aside0.mk (blk_below BA9.out hb); have BR10 := Aside0.mk (blk_below BR9.out hb); have HB10 := Aside0.mk (below_step HB9.out hb); have SZ10 := Aside0.mk (Nat.le_trans SZ9.out hb.size); clear hb)
            | (go_at_call 39; refine (opt6_option.calls 5 w10.heap.size 0 3 [wh, p ++ q, st2] so _ (cells_three (blk_new w10 _)) (by simp) (by show 3 ≤ 140737488355328; omega) (Nat.le_refl 3) HJ.out HO4.out).mono ?_; rintro e w11 ⟨rfl, hb⟩; have IS11 := Aside0.mk ((IS10.out.alloc _).below hb); have BA11 := Aside0.mk (blk_below (blk_alloc BA10.out _) hb); have BR11 := Aside0.mk (blk_below (blk_alloc BR10.out _) hb); have HB11 := Aside0.mk (below_step (below_alloc HB10.out _) hb); have SZ11 := Aside0.mk (Nat.le_trans SZ10.out (Nat.le_trans (Nat.le_succ _) (Nat.le_trans (Nat.le_of_eq (World.size_alloc _ _).symm) hb.size))); clear hb)
            | (go_at_call 31; (with_reducible refine (bld_write gb gb ac so _ IS11.out HZO.out SZ11.out).mono ?_); rintro e W2 ⟨rfl, hIs, hb⟩; have IS2 := Aside0.mk hIs; have BA2 := Aside0.mk (blk_lower BA11.out hb GAB.out); have BR2 := Aside0.mk (blk_lower BR11.out hb GRB.out); have HB2 := Aside0.mk (HB11.out.trans (hb.mono GB.out)); have SZ2 := Aside0.mk (Nat.le_trans SZ11.out hb.size); clear hIs hb))
          go_roundg (l4.length - (kk + 1))
          case measure => have := HK.out; have := HLT.out; omega
          case rel => exact ⟨kk + 1, _, ⟨by have := HLT.out; omega, Nat.le_refl _⟩, by rw [Go.IntWalk.wrap64_in _ (by have := HLT.out; have := HMX.out; omega)]; rfl, HP, IS2, HB2, BA2, BR2, SZ2⟩
      · obtain rfl : kk = l4.length := by have := HK.out; omega
        have hp := HP.out
        rw [List.drop_length, putEach] at hp
        obtain rfl := Option.some.inj hp
        clear hp HP
        have d5_ := (blk_cell BA.out 5).trans rfl
        have hltz : ¬ (l4.length : Int) < (l4.length : Int) := by omega
        go_wp2_with (first
          | (go_at_call 40; refine (opt6_status.calls k _ st _ HST.out).mono ?_; rintro e w10 ⟨rfl, hb⟩; have IS10 := Aside0.mk (IS.out.below hb); have BA10 := Aside0.mk (blk_below BA.out hb); have BR10 := Aside0.mk (blk_below BR.out hb); have HB10 := Aside0.mk (below_step HB.out hb); have SZ10 := Aside0.mk (Nat.le_trans SZ.out hb.size); clear hb)
          | (go_at_call 31; (with_reducible refine (bld_write gb gb ac st _ IS10.out HZ.out SZ10.out).mono ?_); rintro e W2 ⟨rfl, hIs, hb⟩; have IS2 := Aside0.mk hIs; have BA2 := Aside0.mk (blk_lower BA10.out hb GAB.out); have BR2 := Aside0.mk (blk_lower BR10.out hb GRB.out); have HB2 := Aside0.mk (HB10.out.trans (hb.mono GB.out)); have SZ2 := Aside0.mk (Nat.le_trans SZ10.out hb.size); have f0_ := (blk_cell BA2.out 0).trans rfl; clear hIs hb)
          | (go_at_call 41; refine (opt6_codeOf.calls kind c _ HCC.out).mono ?_; rintro e W3 ⟨rfl, hd⟩; have IS3 := Aside0.mk (IS2.out.below hd.below); have BR3 := Aside0.mk (blk_below BR2.out hd.below); have HB3 := Aside0.mk (below_step HB2.out hd.below); have SZ3 := Aside0.mk (Nat.le_trans SZ2.out hd.below.size); clear hd)
          | (go_at_call 33; refine (bld_string gb gb (ac ++ st) W3 IS3.out SZ3.out).mono ?_; rintro e W4 ⟨rfl, hb⟩; have BR4 := Aside0.mk (blk_lower BR3.out hb GRB.out); have HB4 := Aside0.mk (HB3.out.trans (hb.mono GB.out)); clear hb)
          | ((with_reducible refine gate_store (p := 2) rfl ?_); refine XBox.storeL_ rfl rfl 40 rfl gr rfl #[.int .u16 0, .string (⟨#[]⟩ : ByteArray)] #[.int .u16 c, .string (ac ++ st)] rfl BR4.out hi40 (Eq.refl 2) (by simp [Value.oneCell']) ?_; intro wv hw1 hw2 hw3; have BV := Aside0.mk hw1; have HV := Aside0.mk (HB4.out.trans (hw2 _ GR.out)); clear hw1 hw2 hw3))
        refine bodyPost_ret (results_ct rfl _ _ gr 40 #[.int .u16 c, .string (ac ++ st)] (0, 0) _ rfl BV.out hu40 rfl hi40) rfl ?_
        exact ⟨rfl, HV.out⟩
def opt6_PutIA.f (a0 a1 a2 a3 : Int) (a4 : List S76) (a5 : Int) : Option (Int × ByteArray × Int) := putK 1000 a0 a1 a2 a3 a4 a5
theorem opt6_PutIA.calls (a0_0 a0_1 a0_2 a0_3 : Int) (A0_4 : Option Addr) (c0_4 : Nat) (l0_4 : List S76) (a0_5 : Int) (r1 : Int) (r2 : ByteArray) (r3 : Int) (w : World) (hr0_4 : Kd.C k76 w A0_4 l0_4.length l0_4) (hc0_4 : l0_4.length ≤ c0_4) (h : opt6_PutIA.f a0_0 a0_1 a0_2 a0_3 l0_4 a0_5 = some (r1, r2, r3)) :
    Calls Try.prog 19 #[.agg #[.int .i64 a0_0, .int .u32 a0_1, .int .u32 a0_2, .int .u32 a0_3, .slice A0_4 l0_4.length c0_4, .int .i64 a0_5]] w fun e w' => e = .returned (.tuple #[.agg #[.int .u16 r1, .string r2], .int .i64 r3]) ∧ Below w.heap.size w w' :=
  putK_calls 1000 a0_0 a0_1 a0_2 a0_3 A0_4 c0_4 l0_4 a0_5 r1 r2 r3 w hr0_4 hc0_4 h

-- (not needed: function 51 (slices_IndexFunc_int_int))

-- (not needed: function 56 (opt6_must))

-- (not needed: function 54 (opt6_ahead))

end Go.Proofs.Ytngojiikkokajaa.X
