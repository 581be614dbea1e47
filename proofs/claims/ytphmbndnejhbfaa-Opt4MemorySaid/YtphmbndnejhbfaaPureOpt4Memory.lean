/- The plain statement of Opt4Memory: what is answered is new memory: no condition. -/
import Derived.Test.YtphmbndnejhbfaaX5
import Derived.Test.YtphmbndnejhbfaaXOpt2
set_option linter.unusedVariables false
namespace Go.Proofs.Ytphmbndnejhbfaa.Pure
open Go.RowKit Go.Proofs.YtphmbndnejhbfaaW.PrintWords Go.Proofs.YtphmbndnejhbfaaW.PrintLast Go.Proofs.YtphmbndnejhbfaaW.PrintMore Go.Proofs.Ytphmbndnejhbfaa.X Go.Proofs.Ytphmbndnejhbfaa.Oct Go.Proofs.Ytphmbndnejhbfaa.Opt

theorem mem_loop (l : List S42) (a1 : Int) (hl : l.length * 24 ≤ 140737488351232) : ∀ (n k j : Nat) (x7 : List S42), x7.length = (l.filter (fun y => !(y.f0 == a1))).length → x7.length - j ≤ n → n + l.length + 10 ≤ k →
    tenancylaw13_Opt4Memory.l0 k l a1 (l.length : Int) (l ++ [⟨77, (⟨#[120]⟩ : ByteArray)⟩]) x7 (l.filter (fun y => !(y.f0 == a1))) (j : Int) = some true := by
  have hfl : (l.filter (fun y => !(y.f0 == a1))).length ≤ l.length := List.length_filter_le _ _
  intro n
  induction n with
  | zero =>
    intro k j x7 hx hn hk
    obtain ⟨k, rfl⟩ : ∃ m, k = m + 1 := ⟨k - 1, by omega⟩
    have hrd : rd_T42 (l ++ [(⟨77, (⟨#[120]⟩ : ByteArray)⟩ : S42)]) (l.length : Int) = ⟨77, (⟨#[120]⟩ : ByteArray)⟩ := by
      show List.getD _ _ _ = _
      simp
    have ht : (l ++ [(⟨77, (⟨#[120]⟩ : ByteArray)⟩ : S42)]).take l.length = l := by simp
    have hb : ((⟨77, (⟨#[120]⟩ : ByteArray)⟩ : S42).f0 == 77 && ((⟨77, (⟨#[120]⟩ : ByteArray)⟩ : S42).f1.toList == ([120] : List UInt8))) = true := by
      rw [toList_L]; rfl
    have hw : wrap64 (((l.filter (fun y => !(y.f0 == a1))).length : Int) + 1) = (((l.filter (fun y => !(y.f0 == a1))).length + 1 : Nat) : Int) := (w64 (n := ((l.filter (fun y => !(y.f0 == a1))).length : Int) + 1) (by omega)).trans (by omega)
    have hlast : ((x7 ++ [(⟨79, (⟨#[]⟩ : ByteArray)⟩ : S42)]).length : Int) = (((l.filter (fun y => !(y.f0 == a1))).length + 1 : Nat) : Int) := by rw [List.length_append, List.length_singleton, hx]
    rw [tenancylaw13_Opt4Memory.l0, if_neg (by omega), if_pos (by omega), if_pos (by omega), if_pos (by rw [List.length_append]; simp; omega), Int.toNat_natCast, ht, same_refl l (by omega) (by omega), Option.bind_some, if_pos rfl, if_pos (by rw [List.length_append]; simp; omega), hrd, if_pos hb, opt4_Without.f, if_pos (by omega), Option.bind_some, same_refl _ (by omega) (by omega), Option.bind_some, if_pos rfl, hlast, hw, beq_self_eq_true]
  | succ n ih =>
    intro k j x7 hx hn hk
    by_cases hj : j < x7.length
    · obtain ⟨k, rfl⟩ : ∃ m, k = m + 1 := ⟨k - 1, by omega⟩
      have hw : wrap64 ((j : Int) + 1) = ((j + 1 : Nat) : Int) := (w64 (n := (j : Int) + 1) (by omega)).trans (by omega)
      rw [tenancylaw13_Opt4Memory.l0, if_pos (by omega), if_pos (by omega), hw]
      exact ih k (j + 1) _ (by rw [List.length_set]; exact hx) (by rw [List.length_set]; omega) (by omega)
    · exact ih k j x7 hx (by omega) (by omega)
theorem emit_some {k : Nat} (l : List S42) (hk : 60 * l.length + 60 ≤ k) : ∃ r, opt4_Emit.f k l = some r := ⟨_, emit_eq l hk⟩
theorem Opt4Memory : tenancylaw13_Opt4Memory.Pure := by
  intro l a1 hl _
  obtain ⟨h1, _⟩ := hl
  have hfl : (l.filter (fun y => !(y.f0 == a1))).length ≤ l.length := List.length_filter_le _ _
  refine ⟨60 * l.length + 100, ?_⟩
  obtain ⟨r, hr⟩ := emit_some (k := 60 * l.length + 100) l (by omega)
  have hw : wrap64 ((l.length : Int) + 1) = ((l.length + 1 : Nat) : Int) := (w64 (n := (l.length : Int) + 1) (by omega)).trans (by omega)
  have ht : (l ++ [(⟨77, (⟨#[120]⟩ : ByteArray)⟩ : S42)]).take l.length = l := by simp
  unfold tenancylaw13_Opt4Memory.f
  rw [awake_true (by omega), Option.bind_some, if_pos rfl, hw, if_pos (by omega), if_pos (by omega), Option.bind_some, if_pos (by simp; omega), Option.bind_some, List.nil_append, if_pos (by omega), Option.bind_some, if_pos (by omega), if_pos (by rw [List.length_append]; simp; omega), ht, opt4_Without.f, if_pos (by omega), Option.bind_some, Option.bind_some, hr, Option.bind_some]
  exact mem_loop l a1 h1 l.length _ 0 _ rfl (by omega) (by omega)
end Go.Proofs.Ytphmbndnejhbfaa.Pure
