/- Relay: what is written is read again: plain lemmas; conditions: numbers are of their kind. -/
import Derived.Test.YtfpamalmkmhpgaaG0
import Derived.Test.YtfpamalmkmhpgaaG1
import Derived.Test.YtfpamalmkmhpgaaG2
import Derived.Test.YtfpamalmkmhpgaaG3
import Derived.Laws.BitsAllLaws
import Derived.Lib.Strings
import Derived.Test.YtfpamalmkmhpgaaXRl2
set_option linter.unusedVariables false
set_option linter.unusedSimpArgs false
namespace Go.Proofs.Ytfpamalmkmhpgaa.Rl
open Go Go.RowKit Go.Proofs.YtfpamalmkmhpgaaW.PrintWords Go.Proofs.YtfpamalmkmhpgaaW.PrintLast Go.Proofs.YtfpamalmkmhpgaaW.PrintMore Go.Proofs.Ytfpamalmkmhpgaa.X Go.Proofs.Ytfpamalmkmhpgaa.Oct

theorem emOk_cons {x : S42} {zs : List S42} (h : emOk (x :: zs) = true) : runOk (L x.f1) = true ∧ emOk zs = true := by
  unfold emOk at h ⊢
  rwa [List.all_cons, Bool.and_eq_true] at h
theorem prs_emit : ∀ (zs : List S42) (pre : List UInt8) (d : Nat) (acc : List S42), emOk zs = true → (∀ x ∈ zs, okF x) → acc.length + zs.length ≤ 128 → zs.length < d → prs (pre ++ emL zs) d acc (pre.length : Int) = (acc ++ zs, 0)
  | [], pre, d, acc, _, _, _, hd => by
    obtain ⟨d, rfl⟩ : ∃ m, d = m + 1 := ⟨d - 1, by simp at hd; omega⟩
    rw [prs, emL, List.append_nil, if_neg (by omega), List.append_nil]
  | x :: zs, pre, d, acc, ho, hz, hl, hd => by
    rw [List.length_cons] at hl hd
    obtain ⟨d, rfl⟩ : ∃ m, d = m + 1 := ⟨d - 1, by omega⟩
    obtain ⟨h1, h2⟩ := emOk_cons ho
    have hx := hz x List.mem_cons_self
    have hr : (L x.f1).length ≤ 65535 := by simpa [runOk] using h1
    have hrun : runL (L x.f1) = be2 (L x.f1).length ++ L x.f1 := by unfold runL; rw [if_pos h1]
    have e1 : pre ++ emL (x :: zs) = pre ++ be2 x.f0 ++ ((be2 (L x.f1).length ++ L x.f1) ++ emL zs) := by rw [emL, hrun]; simp only [List.append_assoc]
    have e2 : pre ++ emL (x :: zs) = (pre ++ be2 x.f0) ++ (be2 (L x.f1).length ++ L x.f1) ++ emL zs := by rw [emL, hrun]; simp only [List.append_assoc]
    have hpl : ((pre ++ be2 x.f0).length : Int) = (pre.length : Int) + 2 := by rw [List.length_append, be2_length]; omega
    have hc : cutB (pre ++ emL (x :: zs)) (pre.length : Int) 2 = true := by rw [e1]; exact cutB_mid _ _ _ _ rfl
    have hg : getN (pre ++ emL (x :: zs)) (pre.length : Int) 2 = x.f0 := by rw [e1, getN_mid pre (be2 x.f0) _ 2 rfl, num_be2 _ hx.1 hx.2]
    obtain ⟨t1, t2, t3⟩ := take_mid (pre ++ be2 x.f0) (L x.f1) (emL zs) hr
    rw [← e2, hpl] at t1 t2 t3
    have hpos : (pre.length : Int) < ((pre ++ emL (x :: zs)).length : Int) := by rw [e1, List.length_append, List.length_append, be2_length]; omega
    have hpre : ((pre ++ be2 x.f0 ++ (be2 (L x.f1).length ++ L x.f1)).length : Int) = (pre.length : Int) + 2 + 2 + ((L x.f1).length : Int) := by
      rw [List.length_append, List.length_append, List.length_append, be2_length, be2_length]; omega
    rw [prs, if_pos hpos, if_pos ⟨hc, t1⟩, if_neg (by omega), hg, t2, t3, B_L, ← hpre, e2]
    have ih := prs_emit zs (pre ++ be2 x.f0 ++ (be2 (L x.f1).length ++ L x.f1)) d (acc ++ [x]) h2 (fun y hy => hz y (List.mem_cons_of_mem _ hy)) (by rw [List.length_append, List.length_singleton]; omega) (by omega)
    rw [ih, List.append_assoc]
    rfl
theorem emL_ge : ∀ zs : List S42, zs.length ≤ (emL zs).length
  | [] => Nat.le_refl _
  | x :: zs => by
    have := emL_ge zs
    rw [emL, List.length_append, List.length_append, be2_length, List.length_cons]
    omega
theorem opts_enc (kind : Int) (r : S39) (zs : List S42) (ho : emOk zs = true) (hz : ∀ x ∈ zs, okF x) (hl : zs.length ≤ 128) : opts (hdr kind r ++ emL zs) = (zs, 0) := by
  unfold opts
  rw [List.drop_left' (hdr_len kind r)]
  have := prs_emit zs [] ((emL zs).length + 1) [] ho hz (by simpa using hl) (by have := emL_ge zs; omega)
  exact this
theorem one_enc (kind : Int) (r : S39) (zs : List S42) (hr : okR r) (ho : emOk zs = true) (hz : ∀ x ∈ zs, okF x) (hl : zs.length ≤ 128) :
    oneS (hdr kind r ++ emL zs) = fin r.f0 r.f1.f0 r.f1.f1 r.f2.f0 r.f2.f1 (pick zs 0 NIL NIL false) := by
  have hlen : ¬ (hdr kind r ++ emL zs).length < 34 := by rw [List.length_append, hdr_len]; omega
  have hy : (((hdr kind r ++ emL zs).getD 1 0).toNat : Int) = r.f0 := by
    have : (hdr kind r ++ emL zs).getD 1 0 = b8 r.f0 := rfl
    rw [this, b8_nat, Int.emod_eq_of_lt hr.1.1 (by have := hr.1.2; omega)]
  have ha := addr_mid [b8 kind, b8 r.f0] ((be8 r.f2.f0 ++ be8 r.f2.f1) ++ emL zs) r.f1.f0 r.f1.f1 hr.2.1.1 hr.2.1.2
  have hb := addr_mid ([b8 kind, b8 r.f0] ++ (be8 r.f1.f0 ++ be8 r.f1.f1)) (emL zs) r.f2.f0 r.f2.f1 hr.2.2.1.1 hr.2.2.1.2
  have e1 : [b8 kind, b8 r.f0] ++ (be8 r.f1.f0 ++ be8 r.f1.f1) ++ ((be8 r.f2.f0 ++ be8 r.f2.f1) ++ emL zs) = hdr kind r ++ emL zs := by unfold hdr; simp only [List.append_assoc]
  have e2 : ([b8 kind, b8 r.f0] ++ (be8 r.f1.f0 ++ be8 r.f1.f1)) ++ (be8 r.f2.f0 ++ be8 r.f2.f1) ++ emL zs = hdr kind r ++ emL zs := by unfold hdr; simp only [List.append_assoc]
  rw [e1] at ha
  rw [e2] at hb
  have ha1 : getN (cutL (hdr kind r ++ emL zs) 2 16) 0 8 = r.f1.f0 := ha.2.1
  have ha2 : getN (cutL (hdr kind r ++ emL zs) 2 16) 8 8 = r.f1.f1 := ha.2.2
  have hb1 : getN (cutL (hdr kind r ++ emL zs) 18 16) 0 8 = r.f2.f0 := hb.2.1
  have hb2 : getN (cutL (hdr kind r ++ emL zs) 18 16) 8 8 = r.f2.f1 := hb.2.2
  unfold oneS
  rw [if_neg hlen, opts_enc kind r zs ho hz hl, if_pos rfl, hy, ha1, ha2, hb1, hb2]
theorem pick_o (r : S39) (inner : ByteArray) (hr : okR r) : pick (relay_Wrap.o r inner) 0 NIL NIL false = some (r.f3, r.f4, inner) := by
  unfold relay_Wrap.o
  cases h4 : r.f4 with
  | true => simp [pick]
  | false => rw [hr.2.2.2 h4]; simp [pick]
theorem enc_hit (kind : Int) (hk : kind = 12 ∨ kind = 13) (r : S39) (l : List UInt8) : hit kind (hdr kind r ++ l) = true := by
  have h : hit kind (hdr kind r ++ l) = ((kind == 12 || kind == 13) && (((b8 kind).toNat : Int) == kind)) := rfl
  rw [h, b8_nat]
  rcases hk with rfl | rfl <;> decide
theorem unw_step (kind : Int) (hk : kind = 12 ∨ kind = 13) (d : Nat) (r : S39) (inner : ByteArray) (acc : List S39) (hr : okR r) (ho : emOk (relay_Wrap.o r inner) = true) (ha : acc.length < 32) :
    unw kind (d + 1) (enc kind r inner) acc = unw kind d (L inner) (acc ++ [r]) := by
  have hok := o_ok r inner
  unfold enc
  rw [unw, enc_hit kind hk, if_pos rfl, if_neg (by omega), one_enc kind r _ hr ho hok.1 (by omega), pick_o r inner hr]
  rfl
theorem okR_of {r : S39} (hu : okU r) (hb : wbad r = false) : okR r := by
  have h : ¬ (r.f0 < 0 ∨ r.f0 > 255 ∨ (¬ r.f3.toList = [] ∧ ¬ r.f4 = true)) := fun h => by rw [(wbad_iff r).2 h] at hb; cases hb
  refine ⟨⟨by omega, by omega⟩, hu.1, hu.2, fun h4 => ?_⟩
  by_cases h3 : r.f3.toList = []
  · exact ext_L ((nil_iff r.f3).1 h3)
  · exact absurd (.inr (.inr ⟨h3, by rw [h4]; decide⟩)) h
theorem wbad_R {r : S39} (hr : okR r) : wbad r = false := by
  refine Bool.eq_false_iff.2 fun h => ?_
  rcases (wbad_iff r).1 h with h | h | h
  · have := hr.1.1; omega
  · have := hr.1.2; omega
  · refine h.1 ?_
    rw [hr.2.2.2 (Bool.eq_false_iff.2 h.2)]
    exact (nil_iff NIL).2 rfl
theorem any_R {ls : List S39} (h : ∀ r ∈ ls, okR r) : ls.any wbad = false := by
  refine Bool.eq_false_iff.2 fun ha => ?_
  obtain ⟨r, hr, hb⟩ := List.any_eq_true.1 ha
  rw [wbad_R (h r hr)] at hb
  cases hb
theorem chain (kind : Int) (hk : kind = 12 ∨ kind = 13) (inner : ByteArray) : ∀ (ls : List S39) (s : ByteArray) (d : Nat) (acc : List S39), (∀ r ∈ ls, okR r) → relay_Wrap.l kind ls.reverse inner = (s, 0) → acc.length + ls.length ≤ 32 →
    unw kind (d + ls.length) (L s) acc = unw kind d (L inner) (acc ++ ls)
  | [], s, d, acc, _, h, _ => by
    have : (inner, (0 : Int)) = (s, 0) := h
    cases this
    rw [List.append_nil]; rfl
  | r :: t, s, d, acc, hR, h, hl => by
    have hr := hR r List.mem_cons_self
    rw [List.length_cons] at hl
    rw [List.reverse_cons, relay_Wrap.l_append] at h
    by_cases h0 : (relay_Wrap.l kind t.reverse inner).2 = 0
    · rw [if_pos h0, l_cons kind r [] _ (okU_R hr)] at h
      by_cases ho : emOk (relay_Wrap.o r (relay_Wrap.l kind t.reverse inner).1) = true
      · rw [if_pos ho] at h
        have hs : (B (enc kind r (relay_Wrap.l kind t.reverse inner).1), (0 : Int)) = (s, 0) := h
        have hs1 : s = B (enc kind r (relay_Wrap.l kind t.reverse inner).1) := (Prod.mk.inj hs).1.symm
        rw [hs1, L_B, List.length_cons, ← Nat.add_assoc, unw_step kind hk _ r _ acc hr ho (by omega)]
        have := chain kind hk inner t (relay_Wrap.l kind t.reverse inner).1 d (acc ++ [r]) (fun x hx => hR x (List.mem_cons_of_mem _ hx)) (Prod.ext rfl h0) (by rw [List.length_append, List.length_singleton]; omega)
        rw [this, List.append_assoc]; rfl
      · rw [if_neg ho] at h
        have := (Prod.mk.inj h).2
        omega
    · rw [if_neg h0] at h
      have := (Prod.mk.inj h).2
      omega
/-- What Wrap can say. -/
theorem g_good (kind : Int) (hk : kind = 12 ∨ kind = 13) (ls : List S39) (s : ByteArray) (hl : ls.length ≤ 32) (hb : ls.any wbad = false) :
    relay_Wrap.g kind ls s = (NIL, 6) ∨ ∃ t, relay_Wrap.g kind ls s = (t, 0) ∧ relay_Wrap.l kind ls.reverse s = (t, 0) ∧ t.size ≤ 65507 := by
  unfold relay_Wrap.g
  rw [if_pos hk, if_neg (by omega), if_neg (by rw [hb]; decide)]
  by_cases h0 : (relay_Wrap.l kind ls.reverse s).2 = 0
  · rw [if_pos h0]
    by_cases hz : 65507 < (relay_Wrap.l kind ls.reverse s).1.size
    · rw [if_pos hz]; exact .inl rfl
    · rw [if_neg hz]
      exact .inr ⟨_, Prod.ext rfl h0, Prod.ext rfl h0, Nat.le_of_not_lt hz⟩
  · rw [if_neg h0]; exact .inl rfl
theorem g_cases (kind : Int) (ls : List S39) (s : ByteArray) : (¬ (kind = 12 ∨ kind = 13) ∧ relay_Wrap.g kind ls s = (NIL, 1)) ∨ ((kind = 12 ∨ kind = 13) ∧ ((32 < ls.length ∧ relay_Wrap.g kind ls s = (NIL, 170)) ∨ (ls.length ≤ 32 ∧ ((ls.any wbad = true ∧ relay_Wrap.g kind ls s = (NIL, 171)) ∨ (ls.any wbad = false ∧ (relay_Wrap.g kind ls s = (NIL, 6) ∨ ∃ t, relay_Wrap.g kind ls s = (t, 0) ∧ relay_Wrap.l kind ls.reverse s = (t, 0) ∧ t.size ≤ 65507)))))) := by
  by_cases hk : kind = 12 ∨ kind = 13
  · refine .inr ⟨hk, ?_⟩
    by_cases hl : 32 < ls.length
    · refine .inl ⟨hl, ?_⟩
      unfold relay_Wrap.g
      rw [if_pos hk, if_pos hl]
    · refine .inr ⟨by omega, ?_⟩
      cases hb : ls.any wbad with
      | true =>
        refine .inl ⟨rfl, ?_⟩
        unfold relay_Wrap.g
        rw [if_pos hk, if_neg hl, if_pos hb]
      | false => exact .inr ⟨rfl, g_good kind hk ls s (by omega) hb⟩
  · refine .inl ⟨hk, ?_⟩
    unfold relay_Wrap.g
    rw [if_neg hk]
theorem any_false {ls : List S39} (h : ls.any wbad = false) (hU : ∀ r ∈ ls, okU r) : ∀ r ∈ ls, okR r := fun r hr => okR_of (hU r hr) (Bool.eq_false_iff.2 fun hb => by
  rw [List.any_eq_true.2 ⟨r, hr, hb⟩] at h
  cases h)
theorem back (kind : Int) (hk : kind = 12 ∨ kind = 13) (ls : List S39) (s t : ByteArray) (hR : ∀ r ∈ ls, okR r) (hl : ls.length ≤ 32) (h : relay_Wrap.l kind ls.reverse s = (t, 0)) (hh : hit kind (L s) = false) : unw kind 33 (L t) [] = (ls, s, 0) := by
  have := chain kind hk s ls t (33 - ls.length) [] hR h (by simpa using hl)
  rw [show 33 - ls.length + ls.length = 33 by omega, List.nil_append] at this
  rw [this, show 33 - ls.length = (32 - ls.length) + 1 by omega, unw, hh, if_neg (by decide), B_L]
theorem same_true (xs : List S39) (hz : xs.length ≤ 9000000000000) (k : Nat) (hk : xs.length < k) : tenancylaw17_same.f k xs xs = some true := by
  have go : ∀ (d k i : Nat), xs.length - i = d → i ≤ xs.length → d < k → tenancylaw17_same.l0 k xs xs (i : Int) = some true := by
    intro d
    induction d with
    | zero =>
      intro k i hd hi hk
      obtain ⟨k, rfl⟩ : ∃ m, k = m + 1 := ⟨k - 1, by omega⟩
      rw [tenancylaw17_same.l0, if_neg (by omega)]
    | succ d ih =>
      intro k i hd hi hk
      obtain ⟨k, rfl⟩ : ∃ m, k = m + 1 := ⟨k - 1, by omega⟩
      rw [tenancylaw17_same.l0, if_pos (by omega), if_pos (by omega), if_pos (by omega), if_neg (by simp), w64 (by omega)]
      exact ih k (i + 1) (by omega) (by omega) (by omega)
  unfold tenancylaw17_same.f
  rw [if_pos rfl]
  exact go xs.length k 0 rfl (by omega) (by omega)
def r0 : S39 := ⟨0, ⟨1, 0⟩, ⟨0, 2⟩, ⟨#[101]⟩, true⟩
theorem awake_wrap : relay_Wrap.g 13 [r0] (⟨#[109]⟩ : ByteArray) = (⟨#[13, 0, 0, 0, 0, 0, 0, 0, 0, 1, 0, 0, 0, 0, 0, 0, 0, 0, 0, 0, 0, 0, 0, 0, 0, 0, 0, 0, 0, 0, 0, 0, 0, 2, 0, 18, 0, 1, 101, 0, 9, 0, 1, 109]⟩, 0) := by
  have ho : emOk (relay_Wrap.o r0 (⟨#[109]⟩ : ByteArray)) = true := by decide +kernel
  have hR : okR r0 := ⟨⟨by decide, by decide⟩, ⟨⟨by decide, by decide⟩, ⟨by decide, by decide⟩⟩, ⟨⟨by decide, by decide⟩, ⟨by decide, by decide⟩⟩, fun h => by cases h⟩
  have hl : relay_Wrap.l 13 [r0].reverse (⟨#[109]⟩ : ByteArray) = (B (enc 13 r0 (⟨#[109]⟩ : ByteArray)), 0) := by
    show relay_Wrap.l 13 [r0] _ = _
    rw [l_cons 13 r0 [] _ (okU_R hR), if_pos ho]
    rfl
  have he : enc 13 r0 (⟨#[109]⟩ : ByteArray) = [13, 0, 0, 0, 0, 0, 0, 0, 0, 1, 0, 0, 0, 0, 0, 0, 0, 0, 0, 0, 0, 0, 0, 0, 0, 0, 0, 0, 0, 0, 0, 0, 0, 2, 0, 18, 0, 1, 101, 0, 9, 0, 1, 109] := by decide +kernel
  rw [he] at hl
  unfold relay_Wrap.g
  rw [if_pos (.inr rfl), if_neg (by decide), if_neg (by decide +kernel), hl, if_pos rfl, if_neg (by decide)]
  rfl
theorem awake (k : Nat) (hk : 150000 ≤ k) : tenancylaw17_awake.f k = some true := by
  have hR : ∀ r ∈ [r0], okR r := fun r hr => by
    obtain rfl := List.mem_singleton.1 hr
    exact ⟨⟨by decide, by decide⟩, ⟨⟨by decide, by decide⟩, ⟨by decide, by decide⟩⟩, ⟨⟨by decide, by decide⟩, ⟨by decide, by decide⟩⟩, fun h => by cases h⟩
  obtain h | ⟨t, h1, h2, h3⟩ := g_good 13 (.inr rfl) [r0] (⟨#[109]⟩ : ByteArray) (by decide) (any_R hR)
  · rw [awake_wrap] at h; exact absurd (Prod.mk.inj h).2 (by decide)
  have ht := (Prod.mk.inj (awake_wrap.symm.trans h1)).1
  have hb := back 13 (.inr rfl) [r0] _ t hR (by decide) h2 (by decide)
  unfold tenancylaw17_awake.f
  rw [Option.bind_some]
  show (relay_Wrap.f 13 [r0] (⟨#[109]⟩ : ByteArray)).bind _ = _
  unfold relay_Wrap.f
  rw [Option.bind_some, h1]
  show (relay_Unwrap.f k 13 t).bind _ = _
  rw [unwrap_eq k hk, if_neg (by omega), hb, Option.bind_some]
  show (relay_Link.f [r0]).bind _ = _
  rw [show relay_Link.f [r0] = some (1, 0, true) from rfl, Option.bind_some]
  have hs := same_true [r0] (by decide) k (by show 1 < k; omega)
  rw [if_pos (by rw [← ht]; exact ByteArray.toList_eq _), if_pos rfl]
  show (tenancylaw17_same.f k [r0] [r0]).bind _ = _
  rw [hs, Option.bind_some, if_pos rfl, if_pos (ByteArray.toList_eq _), if_pos rfl, if_pos (by decide)]
/-- What Unwrap can say. -/
theorem unw_ok (kind : Int) (d : Nat) : ∀ (l : List UInt8) (acc : List S39) (X : List S39 × ByteArray × Int), acc.length ≤ 32 → (∀ r ∈ acc, okR r) → unw kind d l acc = X → (X.2.2 = 0 → (∀ r ∈ X.1, okR r) ∧ X.1.length ≤ 32) ∧ (¬ X.2.2 = 0 → X.1 = []) := by
  induction d with
  | zero => intro l acc X hl hR e; rw [unw] at e; subst e; exact ⟨fun _ => ⟨hR, hl⟩, fun h => absurd rfl h⟩
  | succ d ih =>
    intro l acc X hl hR e
    rw [unw] at e
    by_cases hh : hit kind l = true
    · rw [if_pos hh] at e
      by_cases h32 : 32 ≤ acc.length
      · rw [if_pos h32] at e; subst e; exact ⟨fun h => absurd h (by decide), fun _ => rfl⟩
      · rw [if_neg h32] at e
        by_cases he : (oneS l).2.2.2.2.2.2.2.2 = 0
        · rw [if_pos he] at e
          refine ih _ _ X (by rw [List.length_append, List.length_singleton]; omega) (fun r hr => ?_) e
          rcases List.mem_append.1 hr with hr | hr
          · exact hR r hr
          · obtain rfl := List.mem_singleton.1 hr
            exact (one_ok l).2.1
        · rw [if_neg he] at e; subst e; exact ⟨fun h => absurd h he, fun _ => rfl⟩
    · rw [if_neg hh] at e; subst e; exact ⟨fun _ => ⟨hR, hl⟩, fun h => absurd rfl h⟩
/-- The first byte. -/
theorem hit_first (kind : Int) (hk : kind = 12 ∨ kind = 13) (s : ByteArray) (hs : 0 < s.size) : hit kind (L s) = (bt s 0 == kind) := by
  have hsz : (L s).length = s.size := by rw [size_L]
  cases hl : L s with
  | nil => rw [hl] at hsz; rw [← hsz] at hs; cases hs
  | cons c cs =>
    have hb0 : bt s 0 = (c.toNat : Int) := by
      have := bt_getD s 0 hs
      rw [hl] at this
      exact this
    rw [hb0]
    unfold hit
    rcases hk with rfl | rfl <;> rfl
theorem hit_empty (kind : Int) (s : ByteArray) (hs : s.size = 0) : hit kind (L s) = false := by
  have hsz : (L s).length = s.size := by rw [size_L]
  rw [hs] at hsz
  rw [List.length_eq_zero_iff.1 hsz]
  unfold hit
  rw [Bool.and_false]
end Go.Proofs.Ytfpamalmkmhpgaa.Rl
