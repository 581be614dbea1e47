/- RelayBack: no condition. -/
import Derived.Test.YtfpamalmkmhpgaaG0
import Derived.Test.YtfpamalmkmhpgaaG1
import Derived.Test.YtfpamalmkmhpgaaG2
import Derived.Test.YtfpamalmkmhpgaaG3
import Derived.Test.YtfpamalmkmhpgaaG9
import Derived.Laws.BitsAllLaws
import Derived.Lib.Strings
import Derived.Test.YtfpamalmkmhpgaaXRl3
set_option linter.unusedVariables false
namespace Go.Proofs.Ytfpamalmkmhpgaa.Pure
open Go Go.RowKit Go.Proofs.YtfpamalmkmhpgaaW.PrintWords Go.Proofs.YtfpamalmkmhpgaaW.PrintLast Go.Proofs.YtfpamalmkmhpgaaW.PrintMore Go.Proofs.Ytfpamalmkmhpgaa.X Go.Proofs.Ytfpamalmkmhpgaa.Oct Go.Proofs.Ytfpamalmkmhpgaa.Rl
def zero : S39 := ⟨0, ⟨0, 0⟩, ⟨0, 0⟩, NIL, false⟩
theorem zero_R : okR zero := ⟨⟨by decide, by decide⟩, ⟨⟨by decide, by decide⟩, ⟨by decide, by decide⟩⟩, ⟨⟨by decide, by decide⟩, ⟨by decide, by decide⟩⟩, fun _ => rfl⟩
/-- 33 relays are too many. -/
theorem many (kind : Int) (hk : kind = 12 ∨ kind = 13) (ls : List S39) (s t : ByteArray) (hR : ∀ r ∈ ls, okR r) (hl : ls.length = 33) (h : relay_Wrap.l kind ls.reverse s = (t, 0)) : (unw kind 33 (L t) []).2.2 = 170 := by
  obtain ⟨ls', last, rfl⟩ : ∃ a b, ls = a ++ [b] := ⟨ls.dropLast, ls.getLast (by intro e; rw [e] at hl; cases hl), (List.dropLast_concat_getLast _).symm⟩
  have hl' : ls'.length = 32 := by simpa using hl
  have hr := hR last (by simp)
  rw [List.reverse_append, List.reverse_singleton, List.singleton_append, l_cons kind last _ s (okU_R hr)] at h
  by_cases ho : emOk (relay_Wrap.o last s) = true
  · rw [if_pos ho] at h
    have := chain kind hk (B (enc kind last s)) ls' t 1 [] (fun r hr => hR r (List.mem_append_left _ hr)) h (by simp [hl'])
    rw [hl', List.nil_append, L_B] at this
    rw [show 33 = 1 + 32 from rfl, this]
    unfold enc
    rw [unw, enc_hit kind hk, if_pos rfl, if_pos (by omega)]
  · rw [if_neg ho] at h
    exact absurd (Prod.mk.inj h).2 (by decide)
theorem l1_go (kind : Int) (hk : kind = 12 ∨ kind = 13) (xs : List S39) (s : ByteArray) (hR : ∀ r ∈ xs, okR r) (N : Nat) (hN : N + xs.length = 33) (h1 : 1 ≤ N) (d : Nat) : ∀ (k i : Nat) (t : ByteArray), N - i = d → i ≤ N → 160000 + d ≤ k → relay_Wrap.l kind (List.replicate i zero ++ xs).reverse s = (t, 0) → t.size ≤ 65507 →
    tenancylaw17_RelayBack.l1 k kind (List.replicate N zero) t (i : Int) = some true := by
  have hRn : ∀ n, ∀ r ∈ List.replicate n zero ++ xs, okR r := fun n r hr => by
    rcases List.mem_append.1 hr with hr | hr
    · rw [(List.mem_replicate.1 hr).2]; exact zero_R
    · exact hR r hr
  induction d with
  | zero =>
    intro k i t hd hi hk2 ht hz
    obtain rfl : i = N := by omega
    obtain ⟨k, rfl⟩ : ∃ m, k = m + 1 := ⟨k - 1, by omega⟩
    rw [tenancylaw17_RelayBack.l1, if_neg (by rw [List.length_replicate]; omega), unwrap_eq _ (by omega), if_neg (by omega), Option.bind_some, many kind hk _ s t (hRn i) (by rw [List.length_append, List.length_replicate]; exact hN) ht]
    rfl
  | succ d ih =>
    intro k i t hd hi hk2 ht hz
    obtain ⟨k, rfl⟩ : ∃ m, k = m + 1 := ⟨k - 1, by omega⟩
    have htake : (List.replicate N zero).take 1 = [zero] := by rw [List.take_replicate, Nat.min_eq_left h1]; rfl
    rw [tenancylaw17_RelayBack.l1, if_pos (by rw [List.length_replicate]; omega), if_pos (by rw [List.length_replicate]; omega), htake]
    unfold relay_Wrap.f
    rw [Option.bind_some]
    obtain hg | ⟨t2, g1, g2, g3⟩ := g_good kind hk [zero] t (by decide) (any_R fun r hr => by obtain rfl := List.mem_singleton.1 hr; exact zero_R)
    · rw [hg, if_neg (by decide)]; rfl
    · rw [g1, if_pos rfl, w64 (by omega)]
      refine ih k (i + 1) t2 (by omega) (by omega) (by omega) ?_ g3
      rw [List.replicate_succ, List.cons_append, List.reverse_cons, relay_Wrap.l_append, ht, if_pos rfl]
      exact g2
theorem l0_go (kind : Int) (xs : List S39) (t : ByteArray) (hl : xs.length ≤ 32) (X : Option Bool) (hX : ∀ k, 170000 ≤ k → tenancylaw17_RelayBack.l1 k kind (List.replicate (33 - xs.length) zero) t 0 = X) (d : Nat) : ∀ (k m : Nat), 33 - xs.length - m = d → m ≤ 33 - xs.length → 170001 + d ≤ k →
    tenancylaw17_RelayBack.l0 k kind xs t (List.replicate m zero) = X := by
  induction d with
  | zero =>
    intro k m hd hm hk
    obtain ⟨k, rfl⟩ : ∃ m, k = m + 1 := ⟨k - 1, by omega⟩
    obtain rfl : m = 33 - xs.length := by omega
    rw [tenancylaw17_RelayBack.l0, if_neg (by rw [List.length_replicate, w64 (by omega)]; omega)]
    exact hX k (by omega)
  | succ d ih =>
    intro k m hd hm hk
    obtain ⟨k, rfl⟩ : ∃ m, k = m + 1 := ⟨k - 1, by omega⟩
    rw [tenancylaw17_RelayBack.l0, if_pos (by rw [List.length_replicate, w64 (by omega)]; omega), if_pos (by rw [List.length_replicate]; omega)]
    have := ih k (m + 1) (by omega) (by omega) (by omega)
    rw [List.replicate_succ'] at this
    exact this
theorem RelayBack : tenancylaw17_RelayBack.Pure := by
  intro a0 l1 a2 h0 h1 h2
  refine ⟨300000, ?_⟩
  have hU : ∀ r ∈ l1, okU r := fun r hr => okU_wf (h1.2 r hr)
  unfold tenancylaw17_RelayBack.f
  rw [awake _ (by decide), Option.bind_some, if_pos rfl]
  unfold relay_Wrap.f
  rw [Option.bind_some]
  by_cases hl : 32 < l1.length
  · rw [if_pos (by omega)]
    rcases g_cases a0 l1 a2 with ⟨hk, hg⟩ | ⟨hk, ⟨_, hg⟩ | ⟨hl2, _⟩⟩
    · rw [hg, if_neg (by decide), if_neg (by omega), if_neg (by omega)]; rfl
    · rw [hg, if_pos rfl]
    · omega
  · rw [if_neg (by omega)]
    rcases g_cases a0 l1 a2 with ⟨hk, hg⟩ | ⟨hk, ⟨hl2, hg⟩ | ⟨hl2, ⟨_, hg⟩ | ⟨hb, hg | ⟨t, g1, g2, g3⟩⟩⟩⟩
    · rw [hg, if_neg (by decide)]; exact congrArg some (by show (NIL.toList == ([] : List UInt8)) = true; rw [(nil_iff NIL).2 rfl]; rfl)
    · omega
    · rw [hg, if_neg (by decide)]; exact congrArg some (by show (NIL.toList == ([] : List UInt8)) = true; rw [(nil_iff NIL).2 rfl]; rfl)
    · rw [hg, if_neg (by decide)]; exact congrArg some (by show (NIL.toList == ([] : List UInt8)) = true; rw [(nil_iff NIL).2 rfl]; rfl)
    · have hR := any_false hb hU
      have hj : ∀ b, (b = false → hit a0 (L a2) = false) → tenancylaw17_RelayBack.j0 300000 a0 l1 a2 t b = some true := by
        intro b hb
        rw [show (300000 : Nat) = 299999 + 1 from rfl, tenancylaw17_RelayBack.j0]
        cases b with
        | true => rw [if_pos rfl]
        | false =>
          have hbk := back a0 hk l1 a2 t hR hl2 g2 (hb rfl)
          rw [if_neg (by decide), unwrap_eq _ (by decide), if_neg (by omega), Option.bind_some, hbk, if_pos rfl]
          show (tenancylaw17_same.f 299999 l1 l1).bind _ = _
          rw [same_true l1 (by omega) _ (by omega), Option.bind_some, if_pos rfl, if_pos rfl, if_pos (by decide)]
          exact l0_go a0 l1 t hl2 (some true) (fun k hk2 => l1_go a0 hk l1 a2 hR (33 - l1.length) (by omega) (by omega) (33 - l1.length) k 0 t (by omega) (by omega) (by omega) (by rw [List.replicate_zero, List.nil_append]; exact g2) g3) (33 - l1.length) _ 0 (by omega) (by omega) (by omega)
      rw [g1, if_pos rfl]
      by_cases hz : (a2.size : Int) > 0
      · rw [if_pos hz, if_pos hz]
        refine hj _ fun hb => ?_
        rw [hit_first a0 hk a2 (by omega)]
        have hw : wrap64 (bt a2 0) = bt a2 0 := by
          have := bt_getD a2 0 (by omega)
          rw [show ((0 : Nat) : Int) = 0 from rfl] at this
          rw [this, w64 (byte_range _)]
        rw [hw] at hb
        exact hb
      · rw [if_neg hz]
        exact hj _ fun _ => hit_empty a0 a2 (by omega)
end Go.Proofs.Ytfpamalmkmhpgaa.Pure
