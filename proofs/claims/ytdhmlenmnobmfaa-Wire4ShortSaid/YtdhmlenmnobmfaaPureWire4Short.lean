/- The law Wire4Short: the call returns true: over what is known of the arguments' kinds: no condition. -/
import Derived.Test.YtdhmlenmnobmfaaG0
import Derived.Test.YtdhmlenmnobmfaaG1
import Derived.Test.YtdhmlenmnobmfaaG2
import Derived.Test.YtdhmlenmnobmfaaG3
import Derived.Laws.BitsAllLaws
import Derived.Lib.Strings
import Derived.Test.YtdhmlenmnobmfaaGS
import Derived.Test.YtdhmlenmnobmfaaXWs
set_option linter.unusedVariables false
set_option linter.unusedSimpArgs false
namespace Go.Proofs.Ytdhmlenmnobmfaa.Pure
open Go.RowKit Go.Proofs.YtdhmlenmnobmfaaW.PrintWords Go.Proofs.YtdhmlenmnobmfaaW.PrintLast Go.Proofs.YtdhmlenmnobmfaaW.PrintMore Go.Proofs.Ytdhmlenmnobmfaa.X Go.Proofs.Ytdhmlenmnobmfaa.Oct Go.Proofs.Ytdhmlenmnobmfaa.Opt Go.Proofs.Ytdhmlenmnobmfaa.W4
theorem dec_is {k : Nat} (hk : 211000 ≤ k) (s : ByteArray) (n : S26) (e : Int) (h : decV s = (n, e)) : DecE k s e := by
  have := decode_eq hk s
  rw [h] at this
  exact ⟨_, _, _, _, _, _, _, _, _, _, _, _, _, _, _, this⟩
theorem pad_eq (l : List UInt8) (n : Nat) : padS n (B l) = B (l ++ List.replicate (n - l.length) 0) := rfl
theorem pad_take (l : List UInt8) (N n : Nat) (h : l.length ≤ n) (hn : n ≤ N) : (padS N (B l)).extract 0 n = B (l ++ List.replicate (n - l.length) 0) := by
  apply ext_L
  rw [pad_eq, L_extract, L_B, L_B, List.drop_zero, Nat.sub_zero, List.take_append, List.take_of_length_le h, List.take_replicate, Nat.min_eq_left (by omega)]
theorem u64_mod (c : Int) (m : Int) (hm : 0 < m) : 0 ≤ (IntKind.u64.wrap c).tmod m ∧ (IntKind.u64.wrap c).tmod m < m := by
  have h0 : 0 ≤ IntKind.u64.wrap c := by rw [IntKind.wrap_u64]; omega
  rw [Int.tmod_eq_emod_of_nonneg h0]
  exact ⟨Int.emod_nonneg _ (by omega), Int.emod_lt_of_pos _ hm⟩
theorem xor_range (j : Nat) (hj : j < 4) : 0 ≤ bits .xor .u8 (([99, 130, 83, 99] : List Int).getD j 0) 1 ∧ bits .xor .u8 (([99, 130, 83, 99] : List Int).getD j 0) 1 < 256 := by
  obtain rfl | rfl | rfl | rfl : j = 0 ∨ j = 1 ∨ j = 2 ∨ j = 3 := by omega
  all_goals decide +kernel
theorem Wire4Short (m : S26) (cut at' : Int) (hm : wf26 m) (_ : (Lit.int .i64 cut).wf = true) (_ : (Lit.int .i64 at').wf = true) (A14 : Option Addr) (c14 : Nat) (w : World) (hr : Kd.C k47 w A14 m.f14.length m.f14) (hc : m.f14.length ≤ c14) :
    Calls Try.prog 7 #[.agg #[.int .u8 m.f0, .int .u8 m.f1, .int .u8 m.f2, .int .u8 m.f3, .int .u32 m.f4, .int .u16 m.f5, .int .u16 m.f6, .int .u32 m.f7, .int .u32 m.f8, .int .u32 m.f9, .int .u32 m.f10, .string m.f11, .string m.f12, .string m.f13, .slice A14 m.f14.length c14], .int .i64 cut, .int .i64 at'] w fun e w' => e = .returned (.bool true) ∧ Below w.heap.size w w' := by
  have hK := kinds_wf hm
  obtain ⟨k, hk⟩ : ∃ k, k = 60 * m.f14.length + 300000 := ⟨_, rfl⟩
  have haw : tenancylaw14_awake.f k = some true := awake_true (by omega)
  have hen := encode_eq (k := k) m hK (by omega)
  by_cases hs : soundV m = true
  case neg =>
    rw [show encV m = (⟨#[]⟩, 141) by unfold encV; rw [if_neg hs]] at hen
    exact short_err k _ _ _ _ _ _ _ _ _ _ _ _ _ _ _ _ _ cut at' _ 141 w hr hc haw hen (by decide)
  have hgd := (emitV_good hK.2.2.2.2.2.2.2.2.2 (soundV_iff.1 hs).2.2.2.2).1
  have hlen := encL_length hs hgd
  by_cases hl : 65507 < (encL m).length
  · rw [show encV m = (⟨#[]⟩, 6) by unfold encV; rw [if_pos hs, if_pos hl]] at hen
    exact short_err k _ _ _ _ _ _ _ _ _ _ _ _ _ _ _ _ _ cut at' _ 6 w hr hc haw hen (by decide)
  rw [show encV m = (B (encL m), 0) by unfold encV; rw [if_pos hs, if_neg hl]] at hen
  have hz : (B (encL m)).size = (encL m).length := size_B _
  obtain ⟨c0, c1⟩ := u64_mod cut 240 (by decide)
  obtain ⟨j0, j1⟩ := u64_mod at' 4 (by decide)
  obtain ⟨c, hcc⟩ : ∃ c : Nat, (IntKind.u64.wrap cut).tmod 240 = (c : Int) := ⟨_, (Int.toNat_of_nonneg c0).symm⟩
  obtain ⟨j, hj⟩ : ∃ j : Nat, (IntKind.u64.wrap at').tmod 4 = (j : Int) := ⟨_, (Int.toNat_of_nonneg j0).symm⟩
  have hj4 : j < 4 := by omega
  have hck := cookie_at hs j hj4
  have hx := xor_range j hj4
  have d1 : DecE k ((B (encL m)).extract 0 c) 3 := dec_is (by omega) _ _ _ (dec_short (by rw [ByteArray.size_extract]; omega))
  have d2 : DecE k (XByR.setB (B (encL m)) (236 + j) (bits .xor .u8 (([99, 130, 83, 99] : List Int).getD j 0) 1)) 140 := dec_is (by omega) _ _ _ (spoilt hK hs (by omega) j hj4 _ rfl)
  have d3 : DecE k (padS 65508 (B (encL m))) 6 := dec_is (by omega) _ _ _ (dec_long (by rw [size_padS _ _ (by omega)]; omega))
  have d4 : DecE k ((padS 65508 (B (encL m))).extract 0 65507) 0 := by
    have e := pad_take (encL m) 65508 65507 (by omega) (by omega)
    rw [e]
    exact dec_is (by omega) _ _ _ (back_tail hK hs _ (by rw [List.length_replicate]; omega))
  exact short_calls k _ _ _ _ _ _ _ _ _ _ _ _ _ _ A14 c14 m.f14 cut at' (B (encL m)) w hr hc haw hen (by omega) c j ⟨by omega, hcc⟩ ⟨hj4, hj⟩ _ ⟨by rw [hck], hx.1, hx.2⟩ d1 d2 d3 d4
end Go.Proofs.Ytdhmlenmnobmfaa.Pure
