/- The plain statement of OctetBack: what is written is read again, and not a byte too early: no condition. -/
import Derived.Test.YtaoeonngifkhbaaX5
import Derived.Test.YtaoeonngifkhbaaXOct
set_option linter.unusedVariables false
set_option linter.unusedSimpArgs false
namespace Go.Proofs.Ytaoeonngifkhbaa.Pure
open Go.RowKit Go.Proofs.YtaoeonngifkhbaaW.PrintWords Go.Proofs.YtaoeonngifkhbaaW.PrintLast Go.Proofs.YtaoeonngifkhbaaW.PrintMore Go.Proofs.Ytaoeonngifkhbaa.X Go.Proofs.Ytaoeonngifkhbaa.Oct

theorem awake_true4 {k : Nat} (hk : 12 ≤ k) : tenancylaw04_awake.f k = some true :=
  at_rounds tenancylaw04_awake.mono hk (by decide +kernel)
set_option maxHeartbeats 2000000 in
theorem OctetBack : tenancylaw04_OctetBack.Pure := by
  intro x s a hx hs ha
  obtain ⟨hx0, hx1⟩ := hx
  have a0 := wf_u64 hx0
  have a1 := wf_u64 hx1
  have hsz : ((L s).length : Int) = s.size := by rw [size_L]
  have haz : ((L a).length : Int) = a.size := by rw [size_L]
  refine ⟨30, ?_⟩
  unfold tenancylaw04_OctetBack.f
  rw [awake_true4 (by omega)]
  simp only [Option.bind_some, if_true]
  by_cases hbig : (s.size : Int) > 65536
  · rw [tenancylaw04_OctetBack.j0, if_pos (by simpa using hbig), awake_true4 (by omega)]
    rfl
  rw [tenancylaw04_OctetBack.j0, if_neg (by simpa using hbig), putAddr (by omega) _ _ a0 a1]
  simp only [Option.bind_some]
  have z16 : (B (be8 x.f0 ++ be8 x.f1)).size = 16 := by rw [size_B, List.length_append, be8_length, be8_length]
  have hw1 : wrap64 (((B (be8 x.f0 ++ be8 x.f1)).size : Int) - 1) = 15 := by rw [z16, w64 (by omega)]; rfl
  have z15 : ((B (be8 x.f0 ++ be8 x.f1)).extract 0 ((15 : Int)).toNat).size = 15 := by rw [ByteArray.size_extract, z16]; rfl
  have hw8 : wrap64 ((a.size : Int) + 8) = (a.size : Int) + 8 := w64 (by omega)
  have zz : (a ++ B (be8 x.f0 ++ be8 x.f1)).size = a.size + 16 := by rw [ByteArray.size_append, z16]
  have zs : (a ++ B (be8 x.f0 ++ be8 x.f1) ++ s).size = a.size + 16 + s.size := by rw [ByteArray.size_append, zz]
  have zt : (a ++ (B (be8 x.f0 ++ be8 x.f1)).extract 0 ((15 : Int)).toNat).size = a.size + 15 := by rw [ByteArray.size_append, z15]
  have y4 : (B (be4 (x.f1 % 4294967296))).size = 4 := by rw [size_B, be4_length]
  have y2 : (B (be2 (x.f0 % 65536))).size = 2 := by rw [size_B, be2_length]
  have q4 : (a ++ B (be4 (x.f1 % 4294967296))).size = a.size + 4 := by rw [ByteArray.size_append, y4]
  have q2 : (a ++ B (be2 (x.f0 % 65536))).size = a.size + 2 := by rw [ByteArray.size_append, y2]
  have p4 : (a ++ B (be4 (x.f1 % 4294967296)) ++ s).size = a.size + 4 + s.size := by rw [ByteArray.size_append, q4]
  have p2 : (a ++ B (be2 (x.f0 % 65536)) ++ s).size = a.size + 2 + s.size := by rw [ByteArray.size_append, q2]
  rw [hw1, if_pos (show a.size + (B (be8 x.f0 ++ be8 x.f1)).size ≤ 9223372036854775807 by omega), if_pos (show (a ++ B (be8 x.f0 ++ be8 x.f1)).size + s.size ≤ 9223372036854775807 by omega), getAddr (by omega) _ _ (by omega) (by omega)]
  rw [Option.bind_some]
  rw [if_pos (show (0 : Int) ≤ 15 by decide), if_pos (show (15 : Int) ≤ ((B (be8 x.f0 ++ be8 x.f1)).size : Int) by omega), if_pos (show a.size + ((B (be8 x.f0 ++ be8 x.f1)).extract 0 (Int.toNat 15)).size ≤ 9223372036854775807 by omega), getAddr (by omega) _ _ (by omega) (by omega)]
  rw [Option.bind_some]
  rw [hw8, get64 (by omega) _ _ (by omega) (by omega)]
  rw [Option.bind_some]
  rw [Put32 (by omega) _ (Int.emod_nonneg _ (by decide)) (Int.emod_lt_of_pos _ (by decide))]
  rw [Option.bind_some]
  rw [if_pos (show a.size + (B (be4 (x.f1 % 4294967296))).size ≤ 9223372036854775807 by omega), if_pos (show (a ++ B (be4 (x.f1 % 4294967296))).size + s.size ≤ 9223372036854775807 by omega), get32 (by omega) _ _ (by omega) (by omega)]
  rw [Option.bind_some]
  rw [u16_wrap, Put16 (by omega) _ (Int.emod_nonneg _ (by decide)) (Int.emod_lt_of_pos _ (by decide))]
  rw [Option.bind_some]
  rw [if_pos (show a.size + (B (be2 (x.f0 % 65536))).size ≤ 9223372036854775807 by omega), if_pos (show (a ++ B (be2 (x.f0 % 65536))).size + s.size ≤ 9223372036854775807 by omega), get16 (by omega) _ _ (by omega) (by omega)]
  rw [Option.bind_some]
  simp only [L_append, L_B, L_extract, List.drop_zero, Nat.sub_zero, ← haz]
  obtain ⟨g1, g2, g3⟩ := addr_mid (L a) (L s) x.f0 x.f1 a0 a1
  have g4 : cutB (L a ++ (be8 x.f0 ++ be8 x.f1).take ((15 : Int)).toNat) ((L a).length : Int) 16 = false := cutB_short _ _ _ (by rw [List.length_take, List.length_append, be8_length, be8_length]; decide)
  have e64 : L a ++ (be8 x.f0 ++ be8 x.f1) = (L a ++ be8 x.f0) ++ be8 x.f1 ++ [] := by simp [List.append_assoc]
  have l64 : ((L a).length : Int) + 8 = ((L a ++ be8 x.f0).length : Int) := by rw [List.length_append, be8_length]; omega
  have g5 : getN (L a ++ (be8 x.f0 ++ be8 x.f1)) (((L a).length : Int) + 8) 8 = x.f1 := by
    rw [e64, l64, getN_mid _ _ _ 8 rfl, num_be8 _ a1.1 a1.2]
  have g6 : cutB (L a ++ (be8 x.f0 ++ be8 x.f1)) (((L a).length : Int) + 8) 8 = true := by
    rw [e64, l64]; exact cutB_mid _ _ _ _ rfl
  have g7 : getN (L a ++ be4 (x.f1 % 4294967296) ++ L s) ((L a).length : Int) 4 = x.f1 % 4294967296 := by rw [getN_mid _ _ _ 4 rfl, num_be4 _ (Int.emod_nonneg _ (by decide)) (Int.emod_lt_of_pos _ (by decide))]
  have g8 : cutB (L a ++ be4 (x.f1 % 4294967296) ++ L s) ((L a).length : Int) 4 = true := cutB_mid _ _ _ _ rfl
  have g9 : getN (L a ++ be2 (x.f0 % 65536) ++ L s) ((L a).length : Int) 2 = x.f0 % 65536 := by rw [getN_mid _ _ _ 2 rfl, num_be2 _ (Int.emod_nonneg _ (by decide)) (Int.emod_lt_of_pos _ (by decide))]
  have g10 : cutB (L a ++ be2 (x.f0 % 65536) ++ L s) ((L a).length : Int) 2 = true := cutB_mid _ _ _ _ rfl
  rw [g1, g2, g3, g4, g5, g6, g7, g8, g9, g10]
  simp only [if_true, beq_self_eq_true, Bool.not_true, Bool.or_self, Bool.false_eq_true, if_false]
  rw [tenancylaw04_OctetBack.j1, if_neg (by decide), run (by omega) s]
  simp only [Option.bind_some]
  by_cases hr : (L s).length ≤ 65535
  · have ho : runOk (L s) = true := by simp only [runOk, decide_eq_true_eq]; exact hr
    have hrl : runL (L s) = be2 (L s).length ++ L s := by unfold runL; rw [ho, if_pos rfl]
    have zr : (B (runL (L s))).size = 2 + (L s).length := by rw [size_B, hrl, List.length_append, be2_length]
    have hw : wrap64 (((B (runL (L s))).size : Int) - 1) = ((1 + (L s).length : Nat) : Int) := by rw [zr, w64 (by omega)]; omega
    have hext : ((B (runL (L s))).extract 0 (1 + (L s).length)).size = 1 + (L s).length := by rw [ByteArray.size_extract, zr]; omega
    clear g1 g2 g3 g4 e64 l64 g5 g6 g7 g8 g9 g10 a0 a1 hx0 hx1 hw1 z15 z16 zz zs zt y4 y2 q4 q2 p4 p2
    have r1 : (a ++ B (runL (L s))).size = a.size + (2 + (L s).length) := by rw [ByteArray.size_append, zr]
    have r2 : (a ++ B (runL (L s)) ++ a).size = a.size + (2 + (L s).length) + a.size := by rw [ByteArray.size_append, r1]
    have r3 : (a ++ (B (runL (L s))).extract 0 (1 + (L s).length)).size = a.size + (1 + (L s).length) := by rw [ByteArray.size_append, hext]
    rw [hw, Int.toNat_natCast, if_pos ho, if_pos (show a.size + (B (runL (L s))).size ≤ 9223372036854775807 by omega), if_pos (show (a ++ B (runL (L s))).size + a.size ≤ 9223372036854775807 by omega), takeRun (by omega) _ _ (by omega) (by omega)]
    simp only [Option.bind_some]
    rw [if_pos (show (0 : Int) ≤ ((1 + (L s).length : Nat) : Int) by omega), if_pos (show ((1 + (L s).length : Nat) : Int) ≤ ((B (runL (L s))).size : Int) by omega), if_pos (show a.size + ((B (runL (L s))).extract 0 (1 + (L s).length)).size ≤ 9223372036854775807 by omega), takeRun (by omega) _ _ (by omega) (by omega)]
    simp only [Option.bind_some, L_append, L_B, L_extract, List.drop_zero, Nat.sub_zero, hrl]
    obtain ⟨t1, t2, t3⟩ := take_mid (L a) (L s) (L a) hr
    rw [t1, t2, t3, take_short (L a) (L s) (1 + (L s).length) hr (by omega), B_L, w64 (n := ((L a).length : Int) + 2) (by omega), w64 (by omega)]
    rw [if_pos rfl, if_pos rfl, if_pos (by omega)]
    rfl
  · have ho : runOk (L s) = false := by simp only [runOk, decide_eq_false_iff_not]; exact hr
    have hrl : runL (L s) = [] := by unfold runL; rw [ho]; rfl
    rw [ho, if_neg (by decide), if_pos (by omega), hrl]
    have e0 : (B ([] : List UInt8)).toList = [] := by
      rw [ByteArray.toList_eq]; rfl
    rw [e0]; rfl
end Go.Proofs.Ytaoeonngifkhbaa.Pure
