/- Opt6: what an association may be, and how it is written, by the reference: plain lemmas; conditions: numbers are of their kind. -/
import Derived.Test.YtngojiikkokajaaG0
import Derived.Test.YtngojiikkokajaaG1
import Derived.Test.YtngojiikkokajaaG2
import Derived.Test.YtngojiikkokajaaG3
import Derived.Test.YtngojiikkokajaaG4
import Derived.Test.YtngojiikkokajaaG5
import Derived.Test.YtngojiikkokajaaG7
import Derived.Test.YtngojiikkokajaaG8
import Derived.Test.YtngojiikkokajaaG10
import Derived.Test.YtngojiikkokajaaG11
import Derived.Test.YtngojiikkokajaaG12
import Derived.Laws.BitsAllLaws
import Derived.Lib.Strings
import Derived.Test.YtngojiikkokajaaXRS
import Derived.Test.YtngojiikkokajaaXOctRefP2
import Derived.Test.YtngojiikkokajaaXO1P
set_option linter.unusedVariables false
set_option linter.unusedSimpArgs false
namespace Go.Proofs.Ytngojiikkokajaa.O6
open Go Go.RowKit Go.Proofs.YtngojiikkokajaaW.PrintWords Go.Proofs.YtngojiikkokajaaW.PrintLast Go.Proofs.YtngojiikkokajaaW.PrintMore Go.Proofs.Ytngojiikkokajaa.X Go.Proofs.Ytngojiikkokajaa.Oct Go.Proofs.Ytngojiikkokajaa.Adr Go.Proofs.Ytngojiikkokajaa.Pre
theorem roption_eq (code : Int) (h0 : 0 ≤ code ∧ code < 65536) (s : ByteArray) (hs : s.size ≤ 65535) (k : Nat) (hk : 10 ≤ k) : tenancyref15_option.f k code s = some (B (emL [⟨code, s⟩])) := by
  have hr : runOk (L s) = true := decide_eq_true hs
  have hb := runL_len (L s)
  unfold tenancyref15_option.f
  rw [rrun (by omega) s, Option.bind_some, rPut16 (by omega) code h0.1 h0.2, Option.bind_some]
  dsimp only
  rw [if_pos (by rw [size_B, size_B, be2_length]; omega), B_append, emL, emL, List.append_nil]
theorem rstat_eq (c : Int) : tenancyref15_status.f c = some (cdB c) := by
  unfold tenancyref15_status.f cdB
  by_cases h : c ≥ -1
  · rw [if_pos h]
    by_cases h2 : c ≤ 65535
    · rw [decide_eq_true h2, decide_eq_true (show -1 ≤ c ∧ c ≤ 65535 from ⟨h, h2⟩)]
    · rw [decide_eq_false h2, decide_eq_false (fun q => h2 q.2)]
  · rw [if_neg h, decide_eq_false (fun q => h q.1)]
theorem drop76 (zs : List S76) (i : Nat) (h : i < zs.length) : zs.drop i = rd_T76 zs (i : Int) :: zs.drop (i + 1) := by
  rw [List.drop_eq_getElem_cons h]
  simp [rd_T76, List.getD_eq_getElem?_getD, List.getElem?_eq_getElem h]
theorem mem76 (zs : List S76) (i : Nat) (h : i < zs.length) : rd_T76 zs (i : Int) ∈ zs := by
  have : rd_T76 zs (i : Int) = zs[i] := by simp [rd_T76, List.getD_eq_getElem?_getD, List.getElem?_eq_getElem h]
  rw [this]
  exact List.getElem_mem h
theorem rs_go (kind iaid t1 t2 : Int) (l : List S76) (code : Int) (hl : l.length ≤ 8) (ok : ∀ x ∈ l, okX x) (d : Nat) : ∀ (k i : Nat), l.length - i = d → i ≤ l.length → 300 + d ≤ k →
    tenancyref15_Sound.l0 k (i : Int) kind iaid t1 t2 l code = some ((l.drop i).all (inS kind)) := by
  induction d with
  | zero =>
    intro k i hd hi hk
    obtain ⟨k, rfl⟩ : ∃ m, k = m + 1 := ⟨k - 1, by omega⟩
    rw [tenancyref15_Sound.l0, if_neg (by omega), List.drop_of_length_le (by omega)]
    rfl
  | succ d ih =>
    intro k i hd hi hk
    obtain ⟨k, rfl⟩ : ∃ m, k = m + 1 := ⟨k - 1, by omega⟩
    have hlt : i < l.length := by omega
    have hx := ok _ (mem76 l i hlt)
    have hn := ih k (i + 1) (by omega) (by omega) (by omega)
    rw [tenancyref15_Sound.l0, if_pos (by omega), if_pos (by omega), drop76 l i hlt, List.all_cons, w64 (by omega)]
    rw [show ((i : Int) + 1) = ((i + 1 : Nat) : Int) from rfl, hn]
    generalize rd_T76 l (i : Int) = x at hx ⊢
    rw [rstat_eq, Option.bind_some]
    unfold inS
    cases cdB x.f3 with
    | false => rfl
    | true =>
      rw [if_pos rfl, rsd_eq (by omega) _ _ _ hx.1.1 hx.1.2, Option.bind_some]
      cases sd x.f0.f0.f0 x.f0.f0.f1 x.f0.f1 with
      | false => rfl
      | true =>
        rw [if_pos rfl]
        by_cases h4 : kind = 4
        · rw [if_pos h4, h4]
          rfl
        · have hb : (kind == 4) = false := by simpa using h4
          rw [if_neg h4, hb]
          by_cases hb2 : x.f0.f1 = 128
          · rw [if_pos hb2, hb2]
            rfl
          · have : (x.f0.f1 == 128) = false := by simpa using hb2
            rw [if_neg hb2, this]
            rfl
theorem rSound_eq (kind iaid t1 t2 : Int) (l : List S76) (code : Int) (ok : ∀ x ∈ l, okX x) (k : Nat) (hk : 320 ≤ k) : tenancyref15_Sound.f k kind iaid t1 t2 l code = some (sndS kind t1 t2 l code) := by
  obtain ⟨k, rfl⟩ : ∃ m, k = m + 1 := ⟨k - 1, by omega⟩
  have bad : ∀ b, b = true → tenancyref15_Sound.j0 (k + 1) b kind iaid t1 t2 l code = some false := fun b hb => by rw [tenancyref15_Sound.j0, if_pos hb]
  have tl : ((if (l.length : Int) > 8 then tenancyref15_Sound.j0 (k + 1) true kind iaid t1 t2 l code else ((tenancyref15_status.f code).bind fun t297 => tenancyref15_Sound.j0 (k + 1) (!t297) kind iaid t1 t2 l code)) = some (l.all (inS kind) && (decide (l.length ≤ 8) && cdB code))) := by
    by_cases h8 : (l.length : Int) > 8
    · rw [if_pos h8, bad true rfl, decide_eq_false (by omega), Bool.false_and, Bool.and_false]
    · rw [if_neg h8, rstat_eq, Option.bind_some, decide_eq_true (show l.length ≤ 8 by omega), Bool.true_and]
      cases cdB code with
      | false => rw [bad (!false) rfl, Bool.and_false]
      | true =>
        rw [tenancyref15_Sound.j0, if_neg (by decide), Bool.and_true]
        exact rs_go kind iaid t1 t2 l code (by omega) ok l.length k 0 rfl (by omega) (by omega)
  unfold tenancyref15_Sound.f sndS
  unfold kdS
  by_cases h2 : kind < 2
  · rw [if_pos h2, bad true rfl, if_neg (by omega)]
    have : (kind == 2 || kind == 4) = false := by simp; omega
    rw [this, Bool.false_and, Bool.and_false]
  · rw [if_neg h2]
    by_cases h4 : kind > 4
    · rw [if_pos h4, bad true rfl, if_neg (by omega)]
      have : (kind == 2 || kind == 4) = false := by simp; omega
      rw [this, Bool.false_and, Bool.and_false]
    · rw [if_neg h4]
      by_cases h3 : kind = 3
      · rw [if_pos h3, if_pos h3]
        by_cases ha : t1 = 0
        · rw [if_pos ha]
          by_cases hb : t2 = 0
          · rw [if_pos hb, tl, ha, hb]
            rfl
          · have : (t2 == 0) = false := by simpa using hb
            rw [if_neg hb, bad true rfl, this, Bool.and_false, Bool.false_and, Bool.and_false]
        · have : (t1 == 0) = false := by simpa using ha
          rw [if_neg ha, bad true rfl, this, Bool.false_and, Bool.false_and, Bool.and_false]
      · have : (kind == 2 || kind == 4) = true := by simp; omega
        rw [if_neg h3, if_neg h3, tl, this, Bool.true_and]
theorem rstO_eq (c : Int) (hc : -1 ≤ c) (k : Nat) (hk : 12 ≤ k) : tenancyref15_statusOption.f k c = some (B (emL (stZ c))) := by
  unfold tenancyref15_statusOption.f stZ
  by_cases h : c < 0
  · rw [if_pos h, if_pos (by omega)]
    rfl
  · have := stD_len c
    rw [if_neg h, if_neg (by omega), rputStatus_eq c k (by omega), Option.bind_some, roption_eq 13 (by omega) _ (by rw [size_B]; omega) k (by omega), Option.bind_some]
theorem rcode_eq (kind : Int) : tenancyref15_Code.f kind = some (cdO kind) := by
  unfold tenancyref15_Code.f cdO
  by_cases h2 : kind = 2
  · rw [if_pos h2, if_pos h2]
  · rw [if_neg h2, if_neg h2]
    by_cases h3 : kind = 3
    · rw [if_pos h3, if_pos h3]
    · rw [if_neg h3, if_neg h3]
theorem cdB_ge {c : Int} (h : cdB c = true) : -1 ≤ c := (of_decide_eq_true h).1
theorem rp_go (kind iaid t1 t2 : Int) (l : List S76) (code : Int) (hc : -1 ≤ code) (hl : l.length ≤ 8) (ok : ∀ x ∈ l, okX x ∧ -1 ≤ x.f3) (d : Nat) : ∀ (k i : Nat) (acc : List UInt8), l.length - i = d → i ≤ l.length → 300 + d ≤ k → acc.length + 65539 * d ≤ 100000000 →
    tenancyref15_PutIA.l0 k (B acc) (i : Int) kind iaid t1 t2 l code = some (cdO kind, B (acc ++ emL ((l.drop i).map (inO kind) ++ stZ code)), 0) := by
  induction d with
  | zero =>
    intro k i acc hd hi hk ha
    obtain ⟨k, rfl⟩ : ∃ m, k = m + 1 := ⟨k - 1, by omega⟩
    have hsz := stZ_len code
    rw [tenancyref15_PutIA.l0, if_neg (by omega), List.drop_of_length_le (by omega), rstO_eq code hc k (by omega), Option.bind_some, if_pos (by rw [size_B, size_B]; omega), rcode_eq, Option.bind_some, B_append]
    rfl
  | succ d ih =>
    intro k i acc hd hi hk ha
    obtain ⟨k, rfl⟩ : ∃ m, k = m + 1 := ⟨k - 1, by omega⟩
    have hlt : i < l.length := by omega
    have hx := ok _ (mem76 l i hlt)
    rw [Nat.mul_succ] at ha
    have hin : acc.length + 65539 * d + 65539 ≤ 100000000 := by rw [Nat.add_assoc]; exact ha
    clear ha
    have hn := fun a (h : a.length + 65539 * d ≤ 100000000) => ih k (i + 1) a (by omega) (by omega) (by omega) h
    rw [tenancyref15_PutIA.l0, if_pos (by omega), if_pos (by omega), drop76 l i hlt, w64 (by omega)]
    rw [show ((i : Int) + 1) = ((i + 1 : Nat) : Int) from rfl]
    generalize rd_T76 l (i : Int) = x at hx ⊢
    have hdl := inD_len kind x
    have hst := stZ_len x.f3
    have hem := emL_len [inO kind x]
    rw [List.length_singleton] at hem
    have hcat : ∀ a : List UInt8, a ++ emL ([inO kind x]) ++ emL ((l.drop (i + 1)).map (inO kind) ++ stZ code) = a ++ emL ((x :: l.drop (i + 1)).map (inO kind) ++ stZ code) := fun a => by
      rw [List.map_cons, List.cons_append, show inO kind x :: ((l.drop (i + 1)).map (inO kind) ++ stZ code) = [inO kind x] ++ ((l.drop (i + 1)).map (inO kind) ++ stZ code) from rfl, emL_append [inO kind x], List.append_assoc]
    rw [rPut32 (by omega) _ hx.1.2.1.1 hx.1.2.1.2, Option.bind_some, rPut32 (by omega) _ hx.1.2.2.1 hx.1.2.2.2, Option.bind_some, B_append, if_pos (by rw [size_B, size_B, be4_length, be4_length]; omega)]
    by_cases h4 : kind = 4
    · have hD : inD kind x = (((be4 x.f1 ++ be4 x.f2) ++ [b8 x.f0.f1]) ++ (be8 x.f0.f0.f0 ++ be8 x.f0.f0.f1)) ++ emL (stZ x.f3) := by unfold inD; rw [if_pos h4]; simp only [List.append_assoc]
      have hO : inO kind x = ⟨26, B (inD kind x)⟩ := by unfold inO; rw [if_pos h4]
      rw [if_pos h4, Option.bind_some, nums1, if_pos (by rw [size_B, size_B]; simp only [List.length_append, be4_length, List.length_cons, List.length_nil]; omega), rputAddr (by omega) _ _ hx.1.1.1 hx.1.1.2, Option.bind_some, B_append, if_pos (by rw [size_B, size_B]; simp only [List.length_append, be4_length, be8_length, List.length_cons, List.length_nil]; omega), rstO_eq _ hx.2 k (by omega), Option.bind_some, B_append, if_pos (by rw [size_B, size_B]; simp only [List.length_append, be4_length, be8_length, List.length_cons, List.length_nil]; omega), B_append, ← hD, roption_eq 26 (by omega) _ (by rw [size_B]; omega) k (by omega), Option.bind_some, ← hO, if_pos (by rw [size_B, size_B]; omega), B_append, hn _ (by rw [List.length_append]; omega), hcat]
    · have hD : inD kind x = ((be8 x.f0.f0.f0 ++ be8 x.f0.f0.f1) ++ (be4 x.f1 ++ be4 x.f2)) ++ emL (stZ x.f3) := by unfold inD; rw [if_neg h4]; simp only [List.append_assoc]
      have hO : inO kind x = ⟨5, B (inD kind x)⟩ := by unfold inO; rw [if_neg h4]
      rw [if_neg h4, rputAddr (by omega) _ _ hx.1.1.1 hx.1.1.2, Option.bind_some, if_pos (by rw [size_B, size_B]; simp only [List.length_append, be4_length, be8_length]; omega), B_append, rstO_eq _ hx.2 k (by omega), Option.bind_some, if_pos (by rw [size_B, size_B]; simp only [List.length_append, be4_length, be8_length]; omega), B_append, ← hD, roption_eq 5 (by omega) _ (by rw [size_B]; omega) k (by omega), Option.bind_some, ← hO, if_pos (by rw [size_B, size_B]; omega), B_append, hn _ (by rw [List.length_append]; omega), hcat]
theorem rPut_eq (kind iaid t1 t2 : Int) (l : List S76) (code : Int) (h : ∀ x ∈ l, okX x) (hi : ok4 iaid) (h1 : ok4 t1) (h2 : ok4 t2) (k : Nat) (hk : 400 ≤ k) :
    tenancyref15_PutIA.f k kind iaid t1 t2 l code = some (if sndS kind t1 t2 l code = true then (cdO kind, B (hdP kind iaid t1 t2 ++ emL (iaZ kind l code)), 0) else (0, NIL, 130)) := by
  obtain ⟨k, rfl⟩ : ∃ m, k = m + 1 := ⟨k - 1, by omega⟩
  unfold tenancyref15_PutIA.f
  rw [rSound_eq kind iaid t1 t2 l code h (k + 1) (by omega), Option.bind_some]
  cases hs : sndS kind t1 t2 l code with
  | false => rfl
  | true =>
    have hs2 := hs
    unfold sndS at hs2
    simp only [Bool.and_eq_true, decide_eq_true_eq, List.all_eq_true] at hs2
    obtain ⟨ha, _, hl, hc⟩ := hs2
    have ok : ∀ x ∈ l, okX x ∧ -1 ≤ x.f3 := fun x hx => ⟨h x hx, by
      have := ha x hx
      unfold inS at this
      rw [Bool.and_eq_true] at this
      exact cdB_ge this.1⟩
    have go := fun (acc : List UInt8) (hh : acc.length ≤ 100) => rp_go kind iaid t1 t2 l code (cdB_ge hc) hl ok l.length k 0 acc rfl (Nat.zero_le _) (by omega) (Nat.le_trans (Nat.add_le_add hh (Nat.mul_le_mul_left 65539 hl)) (by decide))
    rw [if_pos rfl, if_pos rfl, rPut32 (by omega) _ hi.1 hi.2, Option.bind_some]
    unfold hdP
    by_cases h3 : kind = 3
    · rw [if_pos h3, if_pos h3, tenancyref15_PutIA.j0]
      exact go (be4 iaid) (by rw [be4_length]; omega)
    · rw [if_neg h3, if_neg h3, rPut32 (by omega) _ h1.1 h1.2, Option.bind_some, if_pos (by rw [size_B, size_B, be4_length, be4_length]; omega), rPut32 (by omega) _ h2.1 h2.2, Option.bind_some, B_append, if_pos (by rw [size_B, size_B, List.length_append, be4_length, be4_length, be4_length]; omega), B_append, tenancyref15_PutIA.j0]
      have := go ((be4 iaid ++ be4 t1) ++ be4 t2) (by simp only [List.length_append, be4_length]; omega)
      rw [List.append_assoc (be4 iaid)] at this
      rw [List.append_assoc (be4 iaid)]
      exact this
end Go.Proofs.Ytngojiikkokajaa.O6
