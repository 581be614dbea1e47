/- The plain statement of LeaseForm: one form of bytes for a run of changes: no condition. -/
import Derived.Test.YtpdopkhdhbdljaaG18
import Derived.Laws.BitsAllLaws
import Derived.Lib.Strings
import Derived.Test.YtpdopkhdhbdljaaXLea5
set_option linter.unusedVariables false
namespace Go.Proofs.Ytpdopkhdhbdljaa.Pure
open Go.RowKit Go.Proofs.YtpdopkhdhbdljaaW.PrintWords Go.Proofs.YtpdopkhdhbdljaaW.PrintLast Go.Proofs.YtpdopkhdhbdljaaW.PrintMore Go.Proofs.Ytpdopkhdhbdljaa.X Go.Proofs.Ytpdopkhdhbdljaa.Lea Go.Proofs.Ytpdopkhdhbdljaa.Oct
theorem same_go (x : List S31) (hx : x.length ≤ 2048) : ∀ (d k i : Nat), i + d = x.length → d < k → tenancylaw08_same.l0 k x x (i : Int) = some true
  | 0, k, i, hi, hk => by
    obtain ⟨j, rfl⟩ : ∃ j, k = j + 1 := ⟨k - 1, by omega⟩
    rw [tenancylaw08_same.l0, if_neg (by omega)]
  | d + 1, k, i, hi, hk => by
    obtain ⟨j, rfl⟩ : ∃ j, k = j + 1 := ⟨k - 1, by omega⟩
    rw [tenancylaw08_same.l0, if_pos (by omega), if_pos (by omega), if_pos (by omega), if_neg (by simp), w64 (by omega)]
    exact same_go x hx d j (i + 1) (by omega) (by omega)
theorem same_eq {k : Nat} (hk : 2100 ≤ k) (x : List S31) (hx : x.length ≤ 2048) : tenancylaw08_same.f k x x = some true := by
  unfold tenancylaw08_same.f
  rw [if_pos rfl]
  exact same_go x hx x.length k 0 (by omega) (by omega)
theorem form_last {k : Nat} (hk : 2100 ≤ k) (cs : List S31) (hl : cs.length ≤ 2048) (hf : ∀ c ∈ cs, Fit c) (hc : ∀ c ∈ cs, chgP c) (i : Int) :
    tenancylaw08_LeaseForm.j2 (k + 1) (B (be2 cs.length ++ flat cs)) i false = some true := by
  have hfl := flat_len cs
  rw [tenancylaw08_LeaseForm.j2, if_neg (by decide), if_pos (by rw [size_B, List.length_append, be2_length]; omega),
    decode_eq hk _ (by rw [ByteArray.size_append, size_B, List.length_append, be2_length, show (⟨#[120]⟩ : ByteArray).size = 1 from rfl]; omega), Option.bind_some, L_append, L_B,
    show L (⟨#[120]⟩ : ByteArray) = [120] from rfl, decS_written cs [120] hl hf hc, if_neg (by decide)]
  rfl
theorem form_go (cs : List S31) (hl : cs.length ≤ 2048) (hf : ∀ c ∈ cs, Fit c) (hc : ∀ c ∈ cs, chgP c) (hz : (be2 cs.length ++ flat cs).length ≤ 2000) :
    ∀ (d k i : Nat), i + d = (be2 cs.length ++ flat cs).length → 2 * d + 2200 ≤ k → tenancylaw08_LeaseForm.l0 k (B (be2 cs.length ++ flat cs)) (i : Int) = some true
  | 0, k, i, hi, hk => by
    obtain ⟨j, rfl⟩ : ∃ j, k = j + 1 + 1 := ⟨k - 2, by omega⟩
    rw [tenancylaw08_LeaseForm.l0, if_neg (by rw [size_B]; omega)]
    exact form_last (by omega) cs hl hf hc _
  | d + 1, k, i, hi, hk => by
    obtain ⟨j, rfl⟩ : ∃ j, k = j + 1 + 1 := ⟨k - 2, by omega⟩
    rw [tenancylaw08_LeaseForm.l0, if_pos (by rw [size_B]; omega), decide_eq_true (by rw [size_B]; omega), tenancylaw08_LeaseForm.j2, if_pos rfl, if_pos (by omega), if_pos (by rw [size_B]; omega),
      decode_eq (by omega) _ (by rw [size_L, L_extract, List.length_take, List.length_drop, L_B]; omega), Option.bind_some, L_extract, L_B, List.drop_zero, Nat.sub_zero, show ((i : Int)).toNat = i by omega,
      if_pos (decS_short cs hl hf hc i (by omega)), w64 (by omega)]
    exact form_go cs hl hf hc hz d j (i + 1) (by omega) (by omega)
theorem form_tail {k : Nat} (hk : 6400 ≤ k) (x : List S31) (hf : ∀ c ∈ x, Fit c) : tenancylaw08_LeaseForm.j0 k x = some true := by
  obtain ⟨j, rfl⟩ : ∃ j, k = j + 1 + 1 + 1 := ⟨k - 3, by omega⟩
  rw [tenancylaw08_LeaseForm.j0, encode_eq x hf, Option.bind_some]
  by_cases h : x.length > 2048
  · rw [if_pos h]
    dsimp only
    rw [if_neg (by decide), if_pos (by rw [toList_L]; rfl), decide_eq_true (by omega)]
    rfl
  · rw [if_neg h]
    by_cases hc : ∀ c ∈ x, chgP c
    · have hfl := flat_len x
      rw [if_pos hc]
      dsimp only
      rw [if_pos rfl, decode_eq (by omega) _ (by rw [size_B, List.length_append, be2_length]; omega), Option.bind_some, L_B]
      have hd := decS_written x [] (by omega) hf hc
      rw [List.append_nil, if_pos rfl] at hd
      rw [hd]
      dsimp only
      rw [if_pos rfl, same_eq (by omega) x (by omega), Option.bind_some, if_pos rfl]
      by_cases hz : (be2 x.length ++ flat x).length ≤ 2000
      · exact form_go x (by omega) hf hc hz (be2 x.length ++ flat x).length _ 0 (by omega) (by omega)
      · rw [tenancylaw08_LeaseForm.l0, if_pos (by rw [size_B]; omega), decide_eq_false (by rw [size_B]; omega)]
        exact form_last (by omega) x (by omega) hf hc _
    · rw [if_neg hc]
      dsimp only
      rw [if_neg (by decide), if_pos (by rw [toList_L]; rfl), decide_eq_false (by omega)]
      rfl
theorem encode_ok (l : List S31) (hl : l.length ≤ 2048) (hf : ∀ c ∈ l, Fit c) (hc : ∀ c ∈ l, chgP c) : lease_Encode.f l = some (B (be2 l.length ++ flat l), 0) := by
  rw [encode_eq l hf, if_neg (by omega), if_pos hc]
theorem LeaseForm : tenancylaw08_LeaseForm.Pure := by
  intro a0 l1 ha hl
  have hf : ∀ c ∈ l1, Fit c := fun c hc => fit_wf (hl.2 c hc)
  refine ⟨6500, ?_⟩
  unfold tenancylaw08_LeaseForm.f
  rw [awake_true (by omega), Option.bind_some, if_pos rfl, decode_eq (by omega) a0 (by omega), Option.bind_some]
  by_cases h : (decS (L a0)).2 = 0
  · obtain ⟨e1, e2, e3, e4⟩ := decS_ok (L a0) (decS (L a0)).1 (Prod.ext rfl h)
    rw [if_pos h, encode_ok _ e2 e4 e3, Option.bind_some]
    dsimp only
    rw [if_pos rfl, toList_L, toList_L, L_B, if_pos e1.symm]
    exact form_tail (by omega) l1 hf
  · rw [if_neg h]
    exact form_tail (by omega) l1 hf
end Go.Proofs.Ytpdopkhdhbdljaa.Pure
