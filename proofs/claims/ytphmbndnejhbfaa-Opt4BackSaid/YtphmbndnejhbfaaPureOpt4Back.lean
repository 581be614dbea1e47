/- The plain statement of Opt4Back: what is written is read again, and what is read, written anew, is read as the same: no condition. -/
import Derived.Test.YtphmbndnejhbfaaX4
import Derived.Test.YtphmbndnejhbfaaXOpt4
set_option linter.unusedVariables false
namespace Go.Proofs.Ytphmbndnejhbfaa.Pure
open Go.RowKit Go.Proofs.YtphmbndnejhbfaaW.PrintWords Go.Proofs.YtphmbndnejhbfaaW.PrintLast Go.Proofs.YtphmbndnejhbfaaW.PrintMore Go.Proofs.Ytphmbndnejhbfaa.X Go.Proofs.Ytphmbndnejhbfaa.Oct Go.Proofs.Ytphmbndnejhbfaa.Opt

theorem wf_u8 {n : Int} (h : (Lit.int .u8 n).wf = true) : 0 ≤ n ∧ n < 256 := by
  have h : 0 ≤ n ∧ n ≤ 255 := by simpa [Lit.wf, IntKind.min, IntKind.max, IntKind.bits, IntKind.signed] using h
  omega
theorem back_area {l : List S42} (h : Opt.Good l) (n : Nat) (be : List UInt8) (hn : (outB l ++ 255 :: be).length ≤ n) : areaL n [] (outB l ++ 255 :: be) = (l, 0) := by
  rw [area_fuel n _ [] _ hn (Nat.le_refl _)]
  exact read_back be l [] h
theorem back_zero {l : List S42} (h : Opt.Good l) (n : Nat) (be : List UInt8) (hn : (0 :: 0 :: (outB l ++ 255 :: be)).length ≤ n) : areaL n [] (0 :: 0 :: (outB l ++ 255 :: be)) = (l, 0) := by
  rw [area_fuel n _ [] _ hn (Nat.le_refl _)]
  show areaA [] (0 :: 0 :: (outB l ++ 255 :: be)) = (l, 0)
  rw [areaA_zero, areaA_zero]
  exact read_back be l [] h
theorem parse_err : ∀ (ar : List ByteArray) (l : List S42), (parseL l ar).2 ≠ 0 → (parseL l ar).1 = []
  | [], l, h => absurd rfl h
  | s :: r, l, h => by
    unfold parseL at h ⊢
    split
    · rename_i h0; rw [if_pos h0] at h; exact parse_err r _ h
    · rfl
theorem Back_j0 (k : Nat) (l1 : List ByteArray) (h1 : l1.length * 16 ≤ 140737488351232 ∧ ∀ y ∈ l1, y.size ≤ 140737488351232) (hk : l1.length + 3 * 140737488351232 + 20000 ≤ k) : tenancylaw13_Opt4Back.j0 (k + 1) l1 = some true := by
  have hg := good_parse l1 [] good_nil
  rw [tenancylaw13_Opt4Back.j0, parse_eq (M := 140737488351232) (by decide) l1 (by omega) h1.2 (by omega), Option.bind_some]
  by_cases h0 : (parseL [] l1).2 = 0
  · obtain ⟨o1, o2⟩ := out_bytes hg
    have hlen := hg.1
    have he : emitS (parseL [] l1).1 (parseL [] l1).1.length 0 [] = (B (outB (parseL [] l1).1 ++ [255]), 0) := by
      rw [emitS_good hg _ 0 [] (by omega) (by omega), List.drop_zero, List.nil_append, o1]
    have hz : (B (outB (parseL [] l1).1 ++ [255])).size ≤ 700000 := by rw [size_B, List.length_append]; simp; omega
    have hp : parseL [] [B (outB (parseL [] l1).1 ++ [255])] = ((parseL [] l1).1, 0) := by
      rw [parseL, L_B, back_area hg _ [] (by rw [size_B]; exact Nat.le_refl _), if_pos rfl, parseL]
    rw [if_pos h0, emit_eq _ (by omega), if_neg (by omega), he, Option.bind_some, parse_eq (M := 700000) (by decide) [B (outB (parseL [] l1).1 ++ [255])] (by simp) (by intro y hy; obtain rfl := List.mem_singleton.1 hy; exact hz) (by simp; omega), Option.bind_some, if_pos rfl, hp, if_pos rfl, same_refl _ (by omega) (by omega)]
    rfl
  · rw [if_neg h0, parse_err l1 [] h0]; rfl
theorem Opt4Back : tenancylaw13_Opt4Back.Pure := by
  intro l0 l1 a2 hl0 hl1 ha2
  refine ⟨l1.length + 3 * 140737500000000 + 60 * l0.length + 20001, ?_⟩
  have hj := Back_j0 (l1.length + 3 * 140737500000000 + 60 * l0.length + 20000) l1 hl1 (by omega)
  unfold tenancylaw13_Opt4Back.f
  rw [awake_true (by omega), Option.bind_some, if_pos rfl, emit_eq l0 (by omega), Option.bind_some]
  by_cases h128 : 128 < l0.length
  · rw [if_pos h128, if_neg (by decide), if_pos (by rw [toList_L]; rfl)]; exact hj
  · rw [if_neg h128]
    by_cases h0 : (emitS l0 l0.length 0 []).2 = 0
    · have hg : Opt.Good l0 := bad_good (by omega) (fun o ho => wf_u8 (hl0.2 o ho).1) (fun j hj => emitS_zero l0.length 0 [] (by omega) h0 j (by omega) hj)
      obtain ⟨o1, o2⟩ := out_bytes hg
      have he : emitS l0 l0.length 0 [] = (B (outB l0 ++ [255]), 0) := by
        rw [emitS_good hg _ 0 [] (by omega) (by omega), List.drop_zero, List.nil_append, o1]
      have hz : (B (outB l0 ++ [255])).size ≤ 700000 := by rw [size_B, List.length_append]; simp; omega
      have hz2 : ((⟨#[0, 0]⟩ : ByteArray) ++ B (outB l0 ++ [255])).size = 2 + (B (outB l0 ++ [255])).size := by rw [ByteArray.size_append]; rfl
      have hz3 : (((⟨#[0, 0]⟩ : ByteArray) ++ B (outB l0 ++ [255])) ++ a2).size = 2 + (B (outB l0 ++ [255])).size + a2.size := by rw [ByteArray.size_append, hz2]
      have hL : L (((⟨#[0, 0]⟩ : ByteArray) ++ B (outB l0 ++ [255])) ++ a2) = 0 :: 0 :: (outB l0 ++ 255 :: L a2) := by
        rw [L_append, L_append, L_B]
        show [0, 0] ++ (outB l0 ++ [255]) ++ L a2 = _
        simp
      have hE : L (a2.extract 0 0) = [] := by rw [L_extract]; simp
      have hEz : (a2.extract 0 0).size = 0 := by rw [size_L, hE]; rfl
      have hp : parseL [] [((⟨#[0, 0]⟩ : ByteArray) ++ B (outB l0 ++ [255])) ++ a2, a2.extract 0 0] = (l0, 0) := by
        rw [parseL, hL, back_zero hg _ (L a2) (by rw [← hL, ← size_L]; exact Nat.le_refl _), if_pos rfl, parseL, hE, areaL_nil, if_pos rfl, parseL]
      rw [if_pos h0, he]
      dsimp only
      rw [if_pos (by omega), if_pos (by omega), if_pos (by decide), if_pos (by omega), parse_eq (M := 140737500000000) (by decide) [((⟨#[0, 0]⟩ : ByteArray) ++ B (outB l0 ++ [255])) ++ a2, a2.extract 0 0] (by simp) (by
        intro y hy
        rcases List.mem_cons.1 hy with rfl | hy
        · omega
        · obtain rfl := List.mem_singleton.1 hy; omega) (by simp; omega), Option.bind_some, hp, if_pos rfl, same_refl l0 (by omega) (by omega), Option.bind_some, if_pos rfl]
      exact hj
    · have hs : (emitS l0 l0.length 0 []).1 = ⟨#[]⟩ := by
        clear hj
        have : ∀ (n j : Nat) (acc : List Int), (emitS l0 n j acc).2 ≠ 0 → (emitS l0 n j acc).1 = ⟨#[]⟩ := by
          intro n
          induction n with
          | zero => intro j acc h; exact absurd rfl h
          | succ n ih =>
            intro j acc h
            rw [emitS] at h ⊢
            by_cases hb : badO l0 j
            · rw [if_pos hb]
            · rw [if_neg hb] at h ⊢; exact ih _ _ h
        exact this _ _ _ h0
      rw [if_neg h0, hs, if_pos (by rw [toList_L]; rfl)]; exact hj
end Go.Proofs.Ytphmbndnejhbfaa.Pure
