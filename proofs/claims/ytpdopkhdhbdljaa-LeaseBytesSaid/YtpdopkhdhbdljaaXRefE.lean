/- Changes written by the reference: plain lemmas; conditions: numbers are of their kind. -/
import Derived.Test.YtpdopkhdhbdljaaG14
import Derived.Laws.BitsAllLaws
import Derived.Lib.Strings
import Derived.Test.YtpdopkhdhbdljaaXRef1
import Derived.Test.YtpdopkhdhbdljaaXOctRefP
set_option linter.unusedVariables false
set_option linter.unusedSimpArgs false
namespace Go.Proofs.Ytpdopkhdhbdljaa.Lea
open Go.RowKit Go.Proofs.YtpdopkhdhbdljaaW.PrintWords Go.Proofs.YtpdopkhdhbdljaaW.PrintLast Go.Proofs.YtpdopkhdhbdljaaW.PrintMore Go.Proofs.Ytpdopkhdhbdljaa.X Go.Proofs.Ytpdopkhdhbdljaa.Oct Go.Proofs.Ytpdopkhdhbdljaa.Adr

theorem rj1 {k : Nat} (hk : 12 ≤ k) (x : List S31) (acc : ByteArray) (i : Int) (c : S31) (h : Fit c) (hs : acc.size ≤ 4611686018427387904) :
    tenancyref08_Encode.j1 (k + 1) x acc i (if c.f0 = true then 2 else 1) c.f0 c.f1.f0 c.f1.f1.f0.f0 c.f1.f1.f0.f1 c.f1.f1.f1 c.f1.f2 c.f1.f3 c.f1.f4 c.f1.f5 = tenancyref08_Encode.l0 k x (acc ++ B (encC c)) (wrap64 (i + 1)) := by
  obtain ⟨g, kd, ⟨⟨hi, lo⟩, bits⟩, st, cl, id, un⟩ := c
  obtain ⟨h1, h2, h3⟩ := h
  dsimp only at h1 h2 h3 ⊢
  rw [tenancyref08_Encode.j1, Option.bind_some]
  have e3 : strOfNums [(if g = true then (2 : Int) else 1), kd % 256, bits % 256] = B [b8 (if g = true then 2 else 1), b8 kd, b8 bits] := str3 _ _ _ (by split <;> omega)
  rw [e3, if_pos (by rw [size_B]; simp; omega), rputAddr (by omega) _ _ h1 h2, Option.bind_some, if_pos (by rw [ByteArray.size_append, size_B, size_B]; simp [be8_length]; omega)]
  unfold encC
  dsimp only
  cases g with
  | true =>
    rw [if_pos rfl]
    refine congrArg (fun z => tenancyref08_Encode.l0 k x z (wrap64 (i + 1))) (ext_L ?_)
    simp [L_append, L_B]
  | false =>
    have hr := runL_len (L cl)
    rw [if_neg (by decide), if_neg (by decide), rrun (by omega), Option.bind_some, Option.bind_some, str1, if_pos (by simp [size_B, be8_length, ByteArray.size_append]; omega), rPut32 (by omega) _ h3.1 h3.2, Option.bind_some,
      if_pos (by simp [size_B, be8_length, be4_length, ByteArray.size_append]; omega), Oct.u64_wrap, rPut64 (by omega) _ (by omega) (by omega), Option.bind_some, if_pos (by simp [size_B, be8_length, be4_length, ByteArray.size_append]; omega), if_pos (by simp [size_B, be8_length, be4_length, ByteArray.size_append]; omega)]
    refine congrArg (fun z => tenancyref08_Encode.l0 k x z (wrap64 (i + 1))) (ext_L ?_)
    simp [L_append, L_B]
/-- What a run of changes is written as, after what is written already. -/
noncomputable def wr (l : List S31) (acc : ByteArray) : ByteArray × Int := open Classical in if ∀ c ∈ l, chgP c then (acc ++ B (flat l), 0) else ((⟨#[]⟩ : ByteArray), 80)
theorem wr_nil (acc : ByteArray) : wr [] acc = (acc, 0) := by
  unfold wr
  rw [if_pos (by simp)]
  refine Prod.ext ?_ rfl
  apply ext_L
  rw [L_append]; simp [flat, L_B]
theorem wr_bad (c : S31) (l : List S31) (acc : ByteArray) (p : ¬ chgP c) : wr (c :: l) acc = ((⟨#[]⟩ : ByteArray), 80) := by
  unfold wr
  rw [if_neg (fun z => p (z _ (by simp)))]
theorem wr_cons (c : S31) (l : List S31) (acc : ByteArray) (p : chgP c) : wr (c :: l) acc = wr l (acc ++ B (encC c)) := by
  unfold wr
  by_cases q : ∀ c ∈ l, chgP c
  · rw [if_pos q, if_pos (by intro c hc; rcases List.mem_cons.1 hc with rfl | hc; exact p; exact q c hc)]
    refine Prod.ext ?_ rfl
    apply ext_L
    simp [L_append, L_B, flat]
  · rw [if_neg q, if_neg (fun z => q (fun c hc => z c (by simp [hc])))]
theorem rencode_go (x : List S31) (hx : x.length ≤ 2048) (hf : ∀ c ∈ x, Fit c) : ∀ (d k i : Nat) (acc : ByteArray), i + d = x.length → 2 * d + 400 ≤ k → acc.size ≤ 2 + i * 65600 →
    tenancyref08_Encode.l0 k x acc (i : Int) = some (wr (x.drop i) acc)
  | 0, k, i, acc, hi, hk, hs => by
    obtain ⟨j, rfl⟩ : ∃ j, k = j + 1 := ⟨k - 1, by omega⟩
    rw [tenancyref08_Encode.l0, if_neg (by omega), List.drop_of_length_le (by omega), wr_nil]
  | d + 1, k, i, acc, hi, hk, hs => by
    obtain ⟨j, rfl⟩ : ∃ j, k = j + 1 + 1 := ⟨k - 2, by omega⟩
    have hil : i < x.length := by omega
    have hrd : rd_T31 x (i : Int) = x[i] := by unfold rd_T31; simp [List.getD_eq_getElem?_getD, hil]
    have hc := hf x[i] (List.getElem_mem hil)
    have hl := encC_len x[i]
    have hd : x.drop i = x[i] :: x.drop (i + 1) := List.drop_eq_getElem_cons hil
    rw [tenancyref08_Encode.l0, if_pos (by omega), if_pos (by omega), hrd, rchange_eq (by omega) x[i] hc, Option.bind_some, hd]
    by_cases p : chgP x[i]
    · have ih := rencode_go x hx hf d j (i + 1) (acc ++ B (encC x[i])) (by omega) (by omega) (by rw [ByteArray.size_append, size_B]; omega)
      have hj := rj1 (k := j) (by omega) x acc (i : Int) x[i] hc (by omega)
      rw [w64 (by omega), show (i : Int) + 1 = ((i + 1 : Nat) : Int) by omega, ih] at hj
      rw [decide_eq_true p, if_pos rfl, wr_cons _ _ _ p, ← hj]
      by_cases g : x[i].f0 = true
      · rw [if_pos g, if_pos g]
      · rw [if_neg g, if_neg g]
    · rw [decide_eq_false p, if_neg (by decide), wr_bad _ _ _ p]
theorem rencode_eq {k : Nat} (hk : 5000 ≤ k) (l : List S31) (hf : ∀ c ∈ l, Fit c) : tenancyref08_Encode.f k l = some (if l.length > 2048 then ((⟨#[]⟩ : ByteArray), 6) else if ∀ c ∈ l, chgP c then (B (be2 l.length ++ flat l), 0) else ((⟨#[]⟩ : ByteArray), 80)) := by
  unfold tenancyref08_Encode.f
  by_cases h : l.length > 2048
  · rw [if_pos (by omega), if_pos h]
  · rw [if_neg (by omega), if_neg h, u16_wrap, Int.emod_eq_of_lt (by omega) (by omega), rPut16 (by omega) _ (by omega) (by omega), Option.bind_some]
    have := rencode_go l (by omega) hf l.length k 0 (B (be2 l.length)) (by omega) (by omega) (by rw [size_B, be2_length]; omega)
    rw [List.drop_zero] at this
    refine this.trans (congrArg some ?_)
    unfold wr
    by_cases q : ∀ c ∈ l, chgP c
    · rw [if_pos q, if_pos q, B_append]
    · rw [if_neg q, if_neg q]
end Go.Proofs.Ytpdopkhdhbdljaa.Lea
