/- Changes read by the reference: plain lemmas; conditions: a string is within the form's reach. -/
import Derived.Test.YtpdopkhdhbdljaaG16
import Derived.Laws.BitsAllLaws
import Derived.Lib.Strings
import Derived.Test.YtpdopkhdhbdljaaXRef1
import Derived.Test.YtpdopkhdhbdljaaXLea5
import Derived.Test.YtpdopkhdhbdljaaXOctRefG
set_option linter.unusedVariables false
set_option linter.unusedSimpArgs false
namespace Go.Proofs.Ytpdopkhdhbdljaa.Lea
open Go.RowKit Go.Proofs.YtpdopkhdhbdljaaW.PrintWords Go.Proofs.YtpdopkhdhbdljaaW.PrintLast Go.Proofs.YtpdopkhdhbdljaaW.PrintMore Go.Proofs.Ytpdopkhdhbdljaa.X Go.Proofs.Ytpdopkhdhbdljaa.Oct Go.Proofs.Ytpdopkhdhbdljaa.Adr

theorem bt_one {l : List UInt8} {a : Int} (h : cutB l a 1 = true) : 0 < (B (cutL l a 1)).size ∧ bt (B (cutL l a 1)) 0 = getN l a 1 := by
  obtain ⟨x, hx⟩ := cut_one h
  unfold getN
  rw [hx, num1]
  exact ⟨by rw [size_B]; simp, bt_L (B [x]) 0 (by simp [L_B])⟩
theorem cut_two {l : List UInt8} {p : Int} (h : cutB l p 2 = true) : ∃ x y, cutL l p 2 = [x, y] ∧ cutL l p 1 = [x] ∧ cutL l (p + 1) 1 = [y] := by
  have hb := cutB_bound h
  have h1 : cutB l p 1 = true := by simp only [cutB, decide_eq_true_eq]; omega
  have h2 : cutB l (p + 1) 1 = true := by simp only [cutB, decide_eq_true_eq]; omega
  obtain ⟨x, hx⟩ := cut_one h1
  obtain ⟨y, hy⟩ := cut_one h2
  refine ⟨x, y, ?_, hx, hy⟩
  have d1 := cut_drop h1
  have d2 := cut_drop h2
  have d3 := cut_drop h
  have l3 := cut_len h
  rw [hx] at d1
  rw [hy, show p + 1 + 1 = p + 2 by omega] at d2
  rw [d1, d2, ← List.append_assoc] at d3
  exact (List.append_inj_left d3 (by simp; omega)).symm
theorem rE_bad {l : List UInt8} {a : Int} (h : cutB l a 1 = true) (h1 : getN l a 1 ≠ 1) (h2 : getN l a 1 ≠ 2) : rE l a = 4 := by
  have e1 : rE1 l a = 4 := by unfold rE1; rw [h, err_t, if_pos ⟨rfl, h1, h2⟩]
  unfold rE rE4
  rw [if_neg h2, e1, err_nz (e := 4) (by decide), err_nz (e := 4) (by decide), err_nz (e := 4) (by decide), err_nz (e := 4) (by decide), err_nz (e := 4) (by decide), err_nz (e := 4) (by decide), err_nz (e := 4) (by decide)]
/-- What one change reads as, the last is what is wrong. -/
def One (l : List UInt8) (a : Int) (r : Bool × Int × Int × Int × Int × Int × ByteArray × Int × Int × Int × Int) : Prop :=
  r.2.2.2.2.2.2.2.2.2.2 = rE l a ∧ (rE l a = 0 → r = ((rC l a).f0, (rC l a).f1.f0, (rC l a).f1.f1.f0.f0, (rC l a).f1.f1.f0.f1, (rC l a).f1.f1.f1, (rC l a).f1.f2, (rC l a).f1.f3, (rC l a).f1.f4, (rC l a).f1.f5, rT l a, 0))
theorem One_bad {l : List UInt8} {a : Int} {r : Bool × Int × Int × Int × Int × Int × ByteArray × Int × Int × Int × Int} {e : Int} (he : e ≠ 0) (h : rE l a = e) (hr : r.2.2.2.2.2.2.2.2.2.2 = e) : One l a r :=
  ⟨hr.trans h.symm, fun z => absurd (h.symm.trans z) he⟩
theorem rone_eq {k : Nat} (hk : 20 ≤ k) (s : ByteArray) (a : Int) (hs : s.size ≤ 1125899906842624) (ha : 0 ≤ a ∧ a ≤ 1125899906842624) : ∃ r, tenancyref08_one.f k s a = some r ∧ One (L s) a r := by
  obtain ⟨j, rfl⟩ : ∃ j, k = j + 1 + 1 := ⟨k - 2, by omega⟩
  have ht := takeTo_range (L s) (a + 32) (by omega)
  unfold tenancyref08_one.f
  rw [rcut s a 1 (by omega) (by omega) (by omega), Option.bind_some]
  dsimp only
  by_cases c0 : cutB (L s) a 1 = true
  · obtain ⟨z0, b0⟩ := bt_one c0
    rw [if_pos c0, if_pos (by omega), b0]
    by_cases tg : getN (L s) a 1 = 1 ∨ getN (L s) a 1 = 2
    · -- the tag is right
      have key : ∃ r, tenancyref08_one.j0 (j + 1 + 1) s a (B (cutL (L s) a 1)) false = some r ∧ One (L s) a r := by
        have short : ∀ (q : ¬ Full (L s) a), ∃ r, (some (false, 0, 0, 0, 0, 0, (⟨#[]⟩ : ByteArray), 0, 0, 0, 3) : Option (Bool × Int × Int × Int × Int × Int × ByteArray × Int × Int × Int × Int)) = some r ∧ One (L s) a r :=
          fun q => ⟨_, rfl, One_bad (by decide) (rE_short (.inr tg) q) rfl⟩
        rw [tenancyref08_one.j0, if_neg (by decide), w64 (n := a + 1) (by omega), w64 (n := a + 3) (by omega), rcut s (a + 1) 2 (by omega) (by omega) (by omega), Option.bind_some, rgetAddr (by omega) s _ (by omega) (by omega), Option.bind_some]
        dsimp only
        by_cases c1 : cutB (L s) (a + 1) 2 = true
        · obtain ⟨x, y, e1, e2, e3⟩ := cut_two c1
          have hb1 := cutB_bound c1
          have c11 : cutB (L s) (a + 1) 1 = true := by simp only [cutB, decide_eq_true_eq]; omega
          have c12 : cutB (L s) (a + 2) 1 = true := by simp only [cutB, decide_eq_true_eq]; omega
          have n1 : getN (L s) (a + 1) 1 = (x.toNat : Int) := by unfold getN; rw [e2, num1]
          have n2 : getN (L s) (a + 2) 1 = (y.toNat : Int) := by unfold getN; rw [show a + 2 = a + 1 + 1 by omega, e3, num1]
          have hx := x.toNat_lt
          have hy := y.toNat_lt
          have bx : bt (B [x, y]) 0 = (x.toNat : Int) := bt_L (B [x, y]) 0 (by simp [L_B])
          have by_ : bt (B [x, y]) 1 = (y.toNat : Int) := bt_L (B [x, y]) 1 (by simp [L_B])
          rw [if_pos c1, tenancyref08_one.j1]
          rw [show (if cutB (L s) (a + 3) 16 = true then (getN (cutL (L s) (a + 3) 16) 0 8, getN (cutL (L s) (a + 3) 16) 8 8, true) else ((0 : Int), (0 : Int), false)) = rA (L s) a from rfl, rA_ok]
          by_cases c3 : cutB (L s) (a + 3) 16 = true
          · rw [c3, if_neg (by decide), e1, if_pos (by rw [size_B]; simp), if_pos (by rw [size_B]; simp), if_pos (by omega), b0, bx, by_, w64 (n := (x.toNat : Int)) (by omega), w64 (n := (y.toNat : Int)) (by omega)]
            by_cases h2 : getN (L s) a 1 = 2
            · rw [if_pos h2, w64 (n := a + 19) (by omega)]
              have hF : Full (L s) a := ⟨c0, tg, c11, c12, c3, fun z => absurd h2 z⟩
              refine ⟨_, rfl, (rE_full hF).symm, fun _ => ?_⟩
              unfold rC rT
              rw [if_pos h2, if_pos h2, n1, n2]
            · have h1 : getN (L s) a 1 = 1 := tg.resolve_right h2
              rw [if_neg h2, w64 (n := a + 19) (by omega), w64 (n := a + 20) (by omega), w64 (n := a + 24) (by omega), w64 (n := a + 32) (by omega), rcut s (a + 19) 1 (by omega) (by omega) (by omega), Option.bind_some,
                rget32 (by omega) s _ (by omega) (by omega), Option.bind_some, rget64 (by omega) s _ (by omega) (by omega), Option.bind_some, rtakeRun (by omega) s _ (by omega) (by omega), Option.bind_some]
              dsimp only
              by_cases c4 : cutB (L s) (a + 19) 1 = true
              · rw [if_pos c4]
                by_cases c5 : cutB (L s) (a + 20) 4 = true
                · rw [if_pos c5]
                  by_cases c6 : cutB (L s) (a + 24) 8 = true
                  · rw [if_pos c6]
                    by_cases c7 : takeOk (L s) (a + 32) = true
                    · obtain ⟨z4, b4⟩ := bt_one c4
                      have g4 : 0 ≤ getN (L s) (a + 19) 1 ∧ getN (L s) (a + 19) 1 < 256 ^ 1 := getN_range (L s) (a + 19) 1
                      have g4' : getN (L s) (a + 19) 1 < 256 := by simpa using g4.2
                      have hF : Full (L s) a := ⟨c0, tg, c11, c12, c3, fun _ => ⟨c4, c5, c6, c7⟩⟩
                      rw [if_pos c7, if_pos (by omega), b4, w64 (n := getN (L s) (a + 19) 1) (by omega)]
                      refine ⟨_, rfl, (rE_full hF).symm, fun _ => ?_⟩
                      unfold rC rT
                      rw [if_neg h2, if_neg h2, n1, n2]
                    · rw [if_neg c7]
                      exact short (fun F => c7 (F.more h2).2.2.2)
                  · rw [if_neg c6]
                    exact short (fun F => c6 (F.more h2).2.2.1)
                · rw [if_neg c5]
                  exact short (fun F => c5 (F.more h2).2.1)
              · rw [if_neg c4]
                exact short (fun F => c4 (F.more h2).1)
          · rw [Bool.eq_false_iff.2 c3, if_pos (show (!false) = true from rfl)]
            exact short (fun F => c3 F.c3)
        · rw [if_neg c1, tenancyref08_one.j1, if_pos rfl]
          refine short (fun F => c1 ?_)
          have h1 := cutB_bound F.c1
          have h2 := cutB_bound F.c2
          simp only [cutB, decide_eq_true_eq]; omega
      by_cases t1 : getN (L s) a 1 = 1
      · rw [if_pos t1]; exact key
      · have t2 := tg.resolve_left t1
        rw [if_neg t1, t2]; exact key
    · have t1 : getN (L s) a 1 ≠ 1 := fun z => tg (.inl z)
      have t2 : getN (L s) a 1 ≠ 2 := fun z => tg (.inr z)
      rw [if_neg t1, show (getN (L s) a 1 != 2) = true from bne_iff_ne.2 t2, tenancyref08_one.j0, if_pos rfl]
      exact ⟨_, rfl, One_bad (by decide) (rE_bad c0 t1 t2) rfl⟩
  · rw [if_neg c0]
    exact ⟨_, rfl, One_bad (by decide) (rE_short (.inl (Bool.eq_false_iff.2 c0)) (fun F => c0 F.c0)) rfl⟩
theorem rdec_all (x : List S31) (hx : x.length ≤ 2048) (hf : ∀ c ∈ x, Fit c) : ∀ (d k i : Nat), i + d = x.length → d + 400 ≤ k → (∀ c ∈ x.take i, chgP c) → tenancyref08_Decode.l1 k x (i : Int) = some (if ∀ c ∈ x, chgP c then (x, 0) else ([], 80))
  | 0, k, i, hi, hk, hp => by
    obtain ⟨j, rfl⟩ : ∃ j, k = j + 1 := ⟨k - 1, by omega⟩
    rw [List.take_of_length_le (by omega)] at hp
    rw [tenancyref08_Decode.l1, if_neg (by omega), if_pos hp]
  | d + 1, k, i, hi, hk, hp => by
    obtain ⟨j, rfl⟩ : ∃ j, k = j + 1 := ⟨k - 1, by omega⟩
    have hil : i < x.length := by omega
    have hrd : rd_T31 x (i : Int) = x[i] := by unfold rd_T31; simp [List.getD_eq_getElem?_getD, hil]
    rw [tenancyref08_Decode.l1, if_pos (by omega), if_pos (by omega), hrd, rchange_eq (by omega) x[i] (hf _ (List.getElem_mem hil)), Option.bind_some]
    by_cases p : chgP x[i]
    · rw [decide_eq_true p, if_pos rfl, w64 (by omega)]
      refine rdec_all x hx hf d j (i + 1) (by omega) (by omega) ?_
      intro c hc
      rw [← List.take_append_getElem hil] at hc
      rcases List.mem_append.1 hc with hc | hc
      · exact hp c hc
      · rw [List.mem_singleton.1 hc]; exact p
    · rw [decide_eq_false p, if_neg (by decide), if_neg (fun z => p (z _ (List.getElem_mem hil)))]
theorem rdecode_loop (s : ByteArray) (hs : s.size ≤ 1125899906842624) (n : Nat) (hn : n ≤ 2048) : ∀ (d k i : Nat) (a : Int) (acc : List S31), i + d = n → d + 3000 ≤ k → acc.length ≤ i → (0 ≤ a ∧ a ≤ 1125899906842624) → (∀ c ∈ acc, Fit c) →
    tenancyref08_Decode.l0 k s (n : Int) acc a (i : Int) = some (dL (L s) d a acc)
  | 0, k, i, a, acc, hi, hk, hl, ha, hf => by
    obtain ⟨j, rfl⟩ : ∃ j, k = j + 1 := ⟨k - 1, by omega⟩
    rw [tenancyref08_Decode.l0, w64 (n := (n : Int)) (by omega), if_neg (by omega), dL, size_L]
    by_cases h : a < ((L s).length : Int)
    · rw [if_pos h, if_pos h]
    · rw [if_neg h, if_neg h]
      exact rdec_all acc (by omega) hf acc.length j 0 (by omega) (by omega) (by simp)
  | d + 1, k, i, a, acc, hi, hk, hl, ha, hf => by
    obtain ⟨j, rfl⟩ : ∃ j, k = j + 1 := ⟨k - 1, by omega⟩
    obtain ⟨r, hr, e1, e2⟩ := rone_eq (k := j) (by omega) s a hs ha
    rw [tenancyref08_Decode.l0, w64 (n := (n : Int)) (by omega), if_pos (by omega), hr, Option.bind_some, dL, e1]
    by_cases h : rE (L s) a = 0
    · have hw := (read_written ha.1 (full_of h)).2
      have hs' := hs
      rw [size_L] at hs'
      rw [if_pos h, if_pos h, if_pos (by omega), e2 h, w64 (by omega)]
      refine rdecode_loop s hs n hn d j (i + 1) (rT (L s) a) _ (by omega) (by omega) (by simp; omega) ⟨by omega, by omega⟩ ?_
      intro c hc
      rcases List.mem_append.1 hc with hc | hc
      · exact hf c hc
      · rw [List.mem_singleton.1 hc]; exact rC_fit _ _
    · rw [if_neg h, if_neg h]
theorem rdecode_eq {k : Nat} (hk : 6000 ≤ k) (s : ByteArray) (hs : s.size ≤ 1125899906842624) : tenancyref08_Decode.f k s = some (decS (L s)) := by
  unfold tenancyref08_Decode.f decS
  rw [rget16 (by omega) s 0 (by omega) (by omega), Option.bind_some]
  dsimp only
  have hg := getN_2 (L s) 0
  by_cases h : cutB (L s) 0 2 = true
  · rw [if_pos h, if_pos h]
    by_cases h2 : getN (L s) 0 2 > 2048
    · rw [if_pos h2, if_pos h2]
    · rw [if_neg h2, if_neg h2]
      have := rdecode_loop s hs (getN (L s) 0 2).toNat (by omega) (getN (L s) 0 2).toNat k 0 2 [] (by omega) (by omega) (by simp) (by omega) (by simp)
      rwa [Int.toNat_of_nonneg hg.1] at this
  · rw [if_neg h, if_neg h]
theorem dL_len (l : List UInt8) : ∀ (d : Nat) (a : Int) (acc : List S31), (dL l d a acc).1.length ≤ acc.length + d
  | 0, a, acc => by
    rw [dL]
    split
    · simp
    · split <;> simp
  | d + 1, a, acc => by
    rw [dL]
    split
    · have := dL_len l d (rT l a) (acc ++ [rC l a])
      rw [List.length_append, List.length_singleton] at this
      omega
    · simp
theorem decS_len (l : List UInt8) : (decS l).1.length ≤ 2048 := by
  have hg := getN_2 l 0
  unfold decS
  split
  · split
    · simp
    · have := dL_len l (getN l 0 2).toNat 2 []
      simp at this
      omega
  · simp
end Go.Proofs.Ytpdopkhdhbdljaa.Lea
