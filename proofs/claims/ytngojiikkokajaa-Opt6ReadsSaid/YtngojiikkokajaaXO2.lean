/- Opt6: identity associations as the program writes and reads them: plain lemmas; conditions: numbers are of their kind, strings are within 2^62. -/
import Derived.Test.YtngojiikkokajaaG0
import Derived.Test.YtngojiikkokajaaG1
import Derived.Test.YtngojiikkokajaaG2
import Derived.Test.YtngojiikkokajaaG3
import Derived.Test.YtngojiikkokajaaG4
import Derived.Test.YtngojiikkokajaaG5
import Derived.Laws.BitsAllLaws
import Derived.Lib.Strings
import Derived.Test.YtngojiikkokajaaXO1
import Derived.Test.YtngojiikkokajaaXAdr
set_option linter.unusedVariables false
set_option linter.unusedSimpArgs false
namespace Go.Proofs.Ytngojiikkokajaa.O6
open Go Go.RowKit Go.Proofs.YtngojiikkokajaaW.PrintWords Go.Proofs.YtngojiikkokajaaW.PrintLast Go.Proofs.YtngojiikkokajaaW.PrintMore Go.Proofs.Ytngojiikkokajaa.X Go.Proofs.Ytngojiikkokajaa.Oct Go.Proofs.Ytngojiikkokajaa.Adr Go.Proofs.Ytngojiikkokajaa.Pre
theorem emL_append : ∀ a b : List S40, emL (a ++ b) = emL a ++ emL b
  | [], b => rfl
  | x :: a, b => by rw [List.cons_append, emL, emL, emL_append a b]; simp only [List.append_assoc]
theorem B_inj {a b : List UInt8} (h : B a = B b) : a = b := by rw [← L_B a, h, L_B]
/-! ### what an association may be -/
def okX (x : S76) : Prop := ((0 ≤ x.f0.f0.f0 ∧ x.f0.f0.f0 < 18446744073709551616) ∧ (0 ≤ x.f0.f0.f1 ∧ x.f0.f0.f1 < 18446744073709551616)) ∧ (0 ≤ x.f1 ∧ x.f1 < 4294967296) ∧ (0 ≤ x.f2 ∧ x.f2 < 4294967296)
theorem okX_wf {x : S76} (h : wf76 x) : okX x := ⟨⟨wf_u64 h.1.1.1, wf_u64 h.1.1.2⟩, wf_u32 h.2.1, wf_u32 h.2.2.1⟩
def sd (a b n : Int) : Bool := decide (snd a.toNat b.toNat n)
theorem sd_eq {k : Nat} (hk : 1 ≤ k) (a b n : Int) (ha : 0 ≤ a ∧ a < 18446744073709551616) (hb : 0 ≤ b ∧ b < 18446744073709551616) : addr_Sound.f k a b n = some (sd a b n) := by
  have := sound_eq hk a.toNat b.toNat (by omega) (by omega) n
  rw [Int.toNat_of_nonneg ha.1, Int.toNat_of_nonneg hb.1] at this
  exact this
theorem clip_zero (A : Nat) : clip 0 A = A := by simp [clip]
theorem sd_128 (a b : Int) : sd a b 128 = true := decide_eq_true ⟨by omega, by omega, clip_zero _⟩
theorem sd_bits {a b n : Int} (h : sd a b n = true) : 0 ≤ n ∧ n ≤ 128 := by
  have := of_decide_eq_true h
  exact ⟨this.1, this.2.1⟩
def cdB (c : Int) : Bool := decide (-1 ≤ c ∧ c ≤ 65535)
def inS (kind : Int) (x : S76) : Bool := cdB x.f3 && (sd x.f0.f0.f0 x.f0.f0.f1 x.f0.f1 && (kind == 4 || x.f0.f1 == 128))
def kdS (kind t1 t2 : Int) : Bool := if kind = 3 then t1 == 0 && t2 == 0 else kind == 2 || kind == 4
def sndS (kind t1 t2 : Int) (l : List S76) (code : Int) : Bool := l.all (inS kind) && (kdS kind t1 t2 && (decide (l.length ≤ 8) && cdB code))
theorem inn_eq (k : Nat) (hk : 1 ≤ k) (kind : Int) (x : S76) (hx : okX x) : inn k kind x = some (inS kind x) := by
  unfold inn inS
  rw [isCode_eq, Option.bind_some, show decide (-1 ≤ x.f3 ∧ x.f3 ≤ 65535) = cdB x.f3 from rfl]
  cases cdB x.f3 with
  | false => rfl
  | true => rw [if_pos rfl, sd_eq hk _ _ _ hx.1.1 hx.1.2]; rfl
theorem innAll_eq (k : Nat) (hk : 1 ≤ k) (kind : Int) : ∀ l : List S76, (∀ x ∈ l, okX x) → innAll k kind l = some (l.all (inS kind))
  | [], _ => rfl
  | x :: l, h => by
    rw [innAll, inn_eq k hk kind x (h x List.mem_cons_self), Option.bind_some, List.all_cons]
    cases inS kind x with
    | false => rfl
    | true => rw [if_pos rfl, innAll_eq k hk kind l (fun y hy => h y (List.mem_cons_of_mem _ hy)), Bool.true_and]
theorem tailS_eq (kind t1 t2 : Int) (n : Nat) (code : Int) : tailS kind t1 t2 n code = some (kdS kind t1 t2 && (decide (n ≤ 8) && cdB code)) := by
  unfold tailS kdS
  by_cases h3 : kind = 3
  · rw [if_pos h3, if_pos h3]
    by_cases ht : t1 = 0 ∧ t2 = 0
    · rw [if_pos ht, isCode_eq, Option.bind_some, ht.1, ht.2]
      rfl
    · rw [if_neg ht]
      have : (t1 == 0 && t2 == 0) = false := by
        cases h : (t1 == 0 && t2 == 0)
        · rfl
        · rw [Bool.and_eq_true] at h
          exact absurd ⟨by simpa using h.1, by simpa using h.2⟩ ht
      rw [this]
      rfl
  · rw [if_neg h3, if_neg h3]
    by_cases h24 : kind = 2 ∨ kind = 4
    · rw [if_pos h24, isCode_eq, Option.bind_some]
      rcases h24 with rfl | rfl <;> rfl
    · rw [if_neg h24]
      have : (kind == 2 || kind == 4) = false := by
        cases h : (kind == 2 || kind == 4)
        · rfl
        · rw [Bool.or_eq_true] at h
          exact absurd (h.imp (fun q => by simpa using q) (fun q => by simpa using q)) h24
      rw [this]
      rfl
theorem soundK_eq (k : Nat) (hk : 1 ≤ k) (kind iaid t1 t2 : Int) (l : List S76) (code : Int) (h : ∀ x ∈ l, okX x) : soundK k kind iaid t1 t2 l code = some (sndS kind t1 t2 l code) := by
  unfold soundK sndS
  rw [innAll_eq k hk kind l h, Option.bind_some]
  cases l.all (inS kind) with
  | false => rfl
  | true => rw [if_pos rfl, tailS_eq, Bool.true_and]
theorem sound_f (kind iaid t1 t2 : Int) (l : List S76) (code : Int) (h : ∀ x ∈ l, okX x) : opt6_Sound.f kind iaid t1 t2 l code = some (sndS kind t1 t2 l code) := soundK_eq 1000 (by decide) kind iaid t1 t2 l code h
/-! ### statuses and options -/
theorem stD_len (c : Int) : (stD c).length ≤ 2 := by unfold stD; split; exact Nat.le_refl 2; exact Nat.zero_le 2
def stZ (c : Int) : List S40 := if c = -1 then [] else [⟨13, B (stD c)⟩]
theorem emit_one (code : Int) (h0 : 0 ≤ code ∧ code < 65536) (d : ByteArray) (hd : d.size ≤ 65535) : opt6_Emit.f [⟨code, d⟩] = some (B (emL [⟨code, d⟩]), 0) := by
  have ho : emOk [(⟨code, d⟩ : S40)] = true := by
    unfold emOk
    rw [List.all_cons, List.all_nil, Bool.and_true]
    exact decide_eq_true hd
  rw [emit_eq _ (fun x hx => by obtain rfl := List.mem_singleton.1 hx; exact h0) (by simp), if_pos ho]
theorem cat_B (parts : List ByteArray) : catS parts = B (parts.map L).flatten := by
  have : ∀ ps : List (List UInt8), Lib.join ps ([] : List UInt8) = ps.flatten := by
    intro ps
    induction ps with
    | nil => rfl
    | cons p ps ih =>
      cases ps with
      | nil => rw [Lib.join_one]; simp
      | cons q qs =>
        have h2 : Lib.join (p :: q :: qs) ([] : List UInt8) = p ++ Lib.join (q :: qs) [] := by simp [Lib.join, List.intercalate, List.intersperse]
        rw [h2, ih]; simp
  unfold catS
  rw [this]
  rfl
theorem join_len (parts : List ByteArray) : (Lib.join (parts.map (·.data.toList)) ([] : List UInt8)).length = (parts.map L).flatten.length := by
  have := congrArg ByteArray.size (cat_B parts)
  exact this
theorem option_eq (code : Int) (h0 : 0 ≤ code ∧ code < 65536) (parts : List ByteArray) (hs : (parts.map L).flatten.length ≤ 65535) : opt6_option.f code parts = some (B (emL [⟨code, B (parts.map L).flatten⟩])) := by
  unfold opt6_option.f
  rw [cat_B, emit_one code h0 (B (parts.map L).flatten) (by rw [size_B]; exact hs)]
  rfl
theorem status_eq (c : Int) (k : Nat) (hk : 10 ≤ k) : opt6_status.f k c = some (B (emL (stZ c))) := by
  unfold opt6_status.f stZ
  by_cases h : c = -1
  · rw [if_pos h, if_pos h]
    rfl
  · have hl := stD_len c
    rw [if_neg h, if_neg h, putStatus_eq c k hk, Option.bind_some, if_pos (by rw [size_B]; omega), option_eq 13 (by omega) _ (by simp [L_B]; omega)]
    simp [L_B]
/-! ### an association is written -/
def inD (kind : Int) (x : S76) : List UInt8 :=
  if kind = 4 then (be4 x.f1 ++ be4 x.f2) ++ ([b8 x.f0.f1] ++ ((be8 x.f0.f0.f0 ++ be8 x.f0.f0.f1) ++ emL (stZ x.f3))) else (be8 x.f0.f0.f0 ++ be8 x.f0.f0.f1) ++ ((be4 x.f1 ++ be4 x.f2) ++ emL (stZ x.f3))
def inO (kind : Int) (x : S76) : S40 := ⟨if kind = 4 then 26 else 5, B (inD kind x)⟩
theorem stZ_len (c : Int) : (emL (stZ c)).length ≤ 6 := by
  unfold stZ
  split
  · exact Nat.zero_le _
  · have := stD_len c
    have hr : runOk (L (B (stD c))) = true := decide_eq_true (by rw [L_B]; omega)
    rw [emL, emL, List.append_nil, List.length_append, be2_length]
    unfold runL
    rw [if_pos hr, List.length_append, be2_length, L_B]
    omega
theorem inD_len (kind : Int) (x : S76) : (inD kind x).length ≤ 31 := by
  have := stZ_len x.f3
  unfold inD
  split <;> simp only [List.length_append, be4_length, be8_length, List.length_cons, List.length_nil] <;> omega
theorem nums1 (a : Int) : strOfNums [a % 256] = B [b8 a] := by
  rw [strOfNums_B _ (by intro x hx; obtain rfl := List.mem_singleton.1 hx; omega), List.map_cons, List.map_nil, b8_mod]
theorem putOne_eq (k : Nat) (hk : 20 ≤ k) (kind : Int) (x : S76) (hx : okX x) : putOne k kind x = some (B (emL [inO kind x])) := by
  have hl := inD_len kind x
  have hst := stZ_len x.f3
  unfold putOne
  rw [Put32 (by omega) _ hx.2.1.1 hx.2.1.2, Option.bind_some, Put32 (by omega) _ hx.2.2.1 hx.2.2.2, Option.bind_some, B_append, if_pos (by rw [size_B, List.length_append, be4_length, be4_length]; omega), putAddr (by omega) _ _ hx.1.1 hx.1.2, Option.bind_some, status_eq _ k (by omega), Option.bind_some, nums1]
  unfold inO inD
  by_cases h4 : kind = 4
  · have e : ([B (be4 x.f1 ++ be4 x.f2), B [b8 x.f0.f1], B (be8 x.f0.f0.f0 ++ be8 x.f0.f0.f1), B (emL (stZ x.f3))].map L).flatten = (be4 x.f1 ++ be4 x.f2) ++ ([b8 x.f0.f1] ++ ((be8 x.f0.f0.f0 ++ be8 x.f0.f0.f1) ++ emL (stZ x.f3))) := by simp [L_B]
    have hz : ((be4 x.f1 ++ be4 x.f2) ++ ([b8 x.f0.f1] ++ ((be8 x.f0.f0.f0 ++ be8 x.f0.f0.f1) ++ emL (stZ x.f3)))).length ≤ 31 := by
      simp only [List.length_append, be4_length, be8_length, List.length_cons, List.length_nil]; omega
    rw [if_pos h4, if_pos h4, if_pos h4, join_len, e, if_pos (by omega), option_eq 26 (by omega) _ (by rw [e]; omega), e]
  · have e : ([B (be8 x.f0.f0.f0 ++ be8 x.f0.f0.f1), B (be4 x.f1 ++ be4 x.f2), B (emL (stZ x.f3))].map L).flatten = (be8 x.f0.f0.f0 ++ be8 x.f0.f0.f1) ++ ((be4 x.f1 ++ be4 x.f2) ++ emL (stZ x.f3)) := by simp [L_B]
    have hz : ((be8 x.f0.f0.f0 ++ be8 x.f0.f0.f1) ++ ((be4 x.f1 ++ be4 x.f2) ++ emL (stZ x.f3))).length ≤ 31 := by
      simp only [List.length_append, be4_length, be8_length]; omega
    rw [if_neg h4, if_neg h4, if_neg h4, join_len, e, if_pos (by omega), option_eq 5 (by omega) _ (by rw [e]; omega), e]
theorem putEach_eq (k : Nat) (hk : 20 ≤ k) (kind : Int) : ∀ (l : List S76) (acc : ByteArray), (∀ x ∈ l, okX x) → acc.size + 65539 * l.length ≤ 140737488355328 → putEach k kind l acc = some (acc ++ B (emL (l.map (inO kind))))
  | [], acc, _, _ => by
    rw [putEach]
    refine congrArg some ?_
    apply ext_L
    rw [L_append, L_B]
    simp [emL]
  | x :: l, acc, h, hs => by
    have h1 := emL_len [inO kind x]
    rw [List.length_cons] at hs
    rw [List.length_singleton] at h1
    rw [putEach, putOne_eq k hk kind x (h x List.mem_cons_self), Option.bind_some, if_pos (by rw [size_B]; omega), putEach_eq k hk kind l _ (fun y hy => h y (List.mem_cons_of_mem _ hy)) (by rw [ByteArray.size_append, size_B]; omega)]
    refine congrArg some ?_
    apply ext_L
    rw [L_append, L_append, L_append, L_B, L_B, L_B, List.map_cons, show inO kind x :: l.map (inO kind) = [inO kind x] ++ l.map (inO kind) from rfl, emL_append, List.append_assoc]
def cdO (kind : Int) : Int := if kind = 2 then 3 else if kind = 3 then 4 else 25
def hdP (kind iaid t1 t2 : Int) : List UInt8 := if kind = 3 then be4 iaid else be4 iaid ++ (be4 t1 ++ be4 t2)
def iaZ (kind : Int) (l : List S76) (code : Int) : List S40 := l.map (inO kind) ++ stZ code
def ok4 (n : Int) : Prop := 0 ≤ n ∧ n < 4294967296
theorem codeOf_eq (kind : Int) : opt6_codeOf.f kind = some (cdO kind) := by
  unfold opt6_codeOf.f cdO
  by_cases h2 : kind = 2
  · rw [if_pos h2, if_pos h2]
  · rw [if_neg h2, if_neg h2]
    by_cases h3 : kind = 3
    · rw [if_pos h3, if_pos h3]
    · rw [if_neg h3, if_neg h3]
theorem putTail_eq (k : Nat) (hk : 20 ≤ k) (kind : Int) (l : List S76) (code : Int) (acc : ByteArray) (h : ∀ x ∈ l, okX x) (hl : l.length ≤ 8) (ha : acc.size ≤ 100) : putTail k kind l code acc = some (cdO kind, acc ++ B (emL (iaZ kind l code)), 0) := by
  have h1 := emL_len (l.map (inO kind))
  have h2 := stZ_len code
  rw [List.length_map] at h1
  unfold putTail
  rw [putEach_eq k hk kind l acc h (by omega), Option.bind_some, status_eq _ k (by omega), Option.bind_some, if_pos (by rw [ByteArray.size_append, size_B, size_B]; omega), codeOf_eq, Option.bind_some]
  refine congrArg some (Prod.ext rfl (Prod.ext ?_ rfl))
  show _ ++ _ ++ _ = _
  apply ext_L
  unfold iaZ
  rw [L_append, L_append, L_append, L_B, L_B, L_B, emL_append, List.append_assoc]
theorem putK_eq (k : Nat) (hk : 20 ≤ k) (kind iaid t1 t2 : Int) (l : List S76) (code : Int) (h : ∀ x ∈ l, okX x) (hi : ok4 iaid) (h1 : ok4 t1) (h2 : ok4 t2) :
    putK k kind iaid t1 t2 l code = some (if sndS kind t1 t2 l code = true then (cdO kind, B (hdP kind iaid t1 t2 ++ emL (iaZ kind l code)), 0) else (0, NIL, 130)) := by
  unfold putK
  rw [soundK_eq k (by omega) kind iaid t1 t2 l code h, Option.bind_some]
  cases hs : sndS kind t1 t2 l code with
  | false => rfl
  | true =>
    have hl : l.length ≤ 8 := by
      unfold sndS at hs
      simp only [Bool.and_eq_true, decide_eq_true_eq] at hs
      exact hs.2.2.1
    have e0 : (⟨#[]⟩ : ByteArray) ++ B (be4 iaid) = B (be4 iaid) := by
      apply ext_L
      rw [L_append]
      rfl
    rw [if_pos rfl, if_pos rfl, Put32 (by omega) _ hi.1 hi.2, Option.bind_some, if_pos (by rw [size_B, be4_length]; omega), e0]
    unfold hdP
    by_cases h3 : kind = 3
    · rw [if_pos h3, if_pos h3, putTail_eq k hk kind l code _ h hl (by rw [size_B, be4_length]; omega), B_append]
    · rw [if_neg h3, if_neg h3, Put32 (by omega) _ h1.1 h1.2, Option.bind_some, Put32 (by omega) _ h2.1 h2.2, Option.bind_some, B_append, B_append, if_pos (by rw [size_B, size_B, List.length_append, be4_length, be4_length, be4_length]; omega), putTail_eq k hk kind l code _ h hl (by rw [size_B, List.length_append, List.length_append, be4_length, be4_length, be4_length]; omega), B_append]
theorem put_f (kind iaid t1 t2 : Int) (l : List S76) (code : Int) (h : ∀ x ∈ l, okX x) (hi : ok4 iaid) (h1 : ok4 t1) (h2 : ok4 t2) :
    opt6_PutIA.f kind iaid t1 t2 l code = some (if sndS kind t1 t2 l code = true then (cdO kind, B (hdP kind iaid t1 t2 ++ emL (iaZ kind l code)), 0) else (0, NIL, 130)) := putK_eq 1000 (by decide) kind iaid t1 t2 l code h hi h1 h2
/-! ### an association is read -/
def stL : List S40 → Int → Option Int
  | [], cur => some cur
  | x :: l, cur => if x.f0 = 13 then (if cutB (L x.f1) 0 2 = true then stL l (if cur = -1 then getN (L x.f1) 0 2 else cur) else none) else stL l cur
def okS (x : S40) : Prop := x.f1.size ≤ 4611686018427387904
theorem statS_eq (k : Nat) (hk : 10 ≤ k) : ∀ (zs : List S40) (cur : Int), (∀ x ∈ zs, okS x) → statS k zs cur = some (stL zs cur)
  | [], cur, _ => rfl
  | x :: zs, cur, h => by
    have ih := fun c => statS_eq k hk zs c (fun y hy => h y (List.mem_cons_of_mem _ hy))
    rw [statS, stL]
    by_cases h13 : x.f0 = 13
    · rw [if_pos h13, if_pos h13, getStatus_eq _ (h x List.mem_cons_self) k hk, Option.bind_some]
      by_cases hc : cutB (L x.f1) 0 2 = true
      · rw [if_pos hc, if_pos hc]
        dsimp only
        rw [if_pos rfl, ih]
      · rw [if_neg hc, if_neg hc]
        rfl
    · rw [if_neg h13, if_neg h13, ih]
def ga (h : List UInt8) (p : Int) : Int × Int := (getN (cutL h p 16) 0 8, getN (cutL h p 16) 8 8)
def rdT (l : List UInt8) (size : Nat) (a0 a1 bits p v : Int) : Except Int S76 :=
  if sd a0 a1 bits = true then (if (opts (l.drop size)).2 = 0 then (match stL (opts (l.drop size)).1 (-1) with | some c => .ok ⟨⟨⟨a0, a1⟩, bits⟩, p, v, c⟩ | none => .error 130) else .error (opts (l.drop size)).2) else .error 130
def rdI (kind : Int) (l : List UInt8) : Except Int S76 :=
  if kind = 4 then (if cutB l 0 25 = true then rdT l 25 (ga (cutL l 0 25) 9).1 (ga (cutL l 0 25) 9).2 (((cutL l 0 25).getD 8 0).toNat : Int) (getN (cutL l 0 25) 0 4) (getN (cutL l 0 25) 4 4) else .error 3)
  else (if cutB l 0 24 = true then rdT l 24 (ga (cutL l 0 24) 0).1 (ga (cutL l 0 24) 0).2 128 (getN (cutL l 0 24) 16 4) (getN (cutL l 0 24) 20 4) else .error 3)
theorem okO_S {x : S40} (h : okO x) : okS x := by have := h.1; unfold okS; omega
theorem getN8 (l : List UInt8) (i : Int) : 0 ≤ getN l i 8 ∧ getN l i 8 < 18446744073709551616 := by
  have := getN_range l i 8
  simpa using this
theorem getN4 (l : List UInt8) (i : Int) : 0 ≤ getN l i 4 ∧ getN l i 4 < 4294967296 := by
  have := getN_range l i 4
  simpa using this
theorem readT_eq (k : Nat) (hk : 300 ≤ k) (data : ByteArray) (hd : data.size ≤ 4611686018427387904) (size : Nat) (hs : size ≤ data.size) (a0 a1 bits p v : Int) (h0 : 0 ≤ a0 ∧ a0 < 18446744073709551616) (h1 : 0 ≤ a1 ∧ a1 < 18446744073709551616) :
    readT k data size a0 a1 bits p v = some (rdT (L data) size a0 a1 bits p v) := by
  unfold readT rdT
  rw [sd_eq (by omega) a0 a1 bits h0 h1, Option.bind_some]
  cases sd a0 a1 bits with
  | false => rfl
  | true =>
    rw [if_pos rfl, if_pos hs, parse_eq _ (by rw [ByteArray.size_extract]; omega) k hk, Option.bind_some, extract_from, if_pos rfl]
    by_cases he : (opts ((L data).drop size)).2 = 0
    · rw [if_pos he, if_pos he, statS_eq k (by omega) _ _ (fun x hx => okO_S ((opts_ok _).1 x hx)), Option.bind_some]
      cases stL (opts ((L data).drop size)).1 (-1) <;> rfl
    · rw [if_neg he, if_neg he]
theorem readI_eq (k : Nat) (hk : 300 ≤ k) (kind : Int) (data : ByteArray) (hd : data.size ≤ 4611686018427387904) : readI k kind data = some (rdI kind (L data)) := by
  unfold readI rdI
  by_cases h4 : kind = 4
  · rw [if_pos h4, if_pos h4, cut data 0 25 hd (by omega) (by omega), Option.bind_some]
    by_cases hc : cutB (L data) 0 25 = true
    · have hb := cutB_bound hc
      have hl : (cutL (L data) 0 25).length = 25 := by rw [cutL_length, if_pos hc]; rfl
      have hc16 : cutB (cutL (L data) 0 25) 9 16 = true := by simp only [cutB, decide_eq_true_eq, hl]; omega
      have hz : (B (cutL (L data) 0 25)).size ≤ 4611686018427387904 := by rw [size_B, hl]; omega
      have hc1 : 8 < (cutL (L data) 0 25).length := by omega
      dsimp only
      rw [hc, if_pos rfl, if_pos rfl, dif_pos (by rw [size_B, hl]; omega), get32 (by omega) _ 0 hz (by omega), Option.bind_some, get32 (by omega) _ 4 hz (by omega), Option.bind_some, getAddr (by omega) _ 9 hz (by omega), Option.bind_some, L_B, if_pos hc16]
      dsimp only
      have e8 : ∀ hh, (((B (cutL (L data) 0 25))[8]'hh).toNat : Int) = (((cutL (L data) 0 25).getD 8 0).toNat : Int) := fun hh => by
        rw [List.getD_eq_getElem?_getD, List.getElem?_eq_getElem hc1]
        rfl
      rw [e8, w64 (byte_range _), readT_eq k hk data hd 25 (by rw [size_L]; omega) _ _ _ _ _ (getN8 _ _) (getN8 _ _)]
      rfl
    · dsimp only
      rw [if_neg hc, if_neg hc]
  · rw [if_neg h4, if_neg h4, cut data 0 24 hd (by omega) (by omega), Option.bind_some]
    by_cases hc : cutB (L data) 0 24 = true
    · have hb := cutB_bound hc
      have hl : (cutL (L data) 0 24).length = 24 := by rw [cutL_length, if_pos hc]; rfl
      have hc16 : cutB (cutL (L data) 0 24) 0 16 = true := by simp only [cutB, decide_eq_true_eq, hl]; omega
      have hz : (B (cutL (L data) 0 24)).size ≤ 4611686018427387904 := by rw [size_B, hl]; omega
      dsimp only
      rw [hc, if_pos rfl, if_pos rfl, get32 (by omega) _ 16 hz (by omega), Option.bind_some, get32 (by omega) _ 20 hz (by omega), Option.bind_some, getAddr (by omega) _ 0 hz (by omega), Option.bind_some, L_B, if_pos hc16]
      dsimp only
      rw [readT_eq k hk data hd 24 (by rw [size_L]; omega) _ _ _ _ _ (getN8 _ _) (getN8 _ _)]
      rfl
    · dsimp only
      rw [if_neg hc, if_neg hc]
def glL (kind part : Int) : List S40 → List S76 → Int → Except Int (List S76 × Int)
  | [], has, cur => .ok (has, cur)
  | x :: l, has, cur =>
    if x.f0 = 13 then (if cutB (L x.f1) 0 2 = true then glL kind part l has (if cur = -1 then getN (L x.f1) 0 2 else cur) else .error 130)
    else if x.f0 = part then (if 8 ≤ has.length then .error 6 else match rdI kind (L x.f1) with | .ok y => glL kind part l (has ++ [y]) cur | .error e => .error e)
    else glL kind part l has cur
theorem getL_eq (k : Nat) (hk : 300 ≤ k) (kind part : Int) : ∀ (zs : List S40) (has : List S76) (cur : Int), (∀ x ∈ zs, okS x) → getL k kind part zs has cur = some (glL kind part zs has cur)
  | [], has, cur, _ => rfl
  | x :: zs, has, cur, h => by
    have ih := fun hs c => getL_eq k hk kind part zs hs c (fun y hy => h y (List.mem_cons_of_mem _ hy))
    rw [getL, glL]
    by_cases h13 : x.f0 = 13
    · rw [if_pos h13, if_pos h13, getStatus_eq _ (h x List.mem_cons_self) k (by omega), Option.bind_some]
      by_cases hc : cutB (L x.f1) 0 2 = true
      · rw [if_pos hc, if_pos hc]
        dsimp only
        rw [if_pos rfl, ih]
      · rw [if_neg hc, if_neg hc]
        rfl
    · rw [if_neg h13, if_neg h13]
      by_cases hp : x.f0 = part
      · rw [if_pos hp, if_pos hp]
        by_cases h8 : 8 ≤ has.length
        · rw [if_pos h8, if_pos h8]
        · rw [if_neg h8, if_neg h8, readI_eq k hk kind _ (h x List.mem_cons_self), Option.bind_some]
          cases rdI kind (L x.f1) with
          | ok y => exact ih _ _
          | error e => rfl
      · rw [if_neg hp, if_neg hp, ih]
theorem getN2 (l : List UInt8) (i : Int) : 0 ≤ getN l i 2 ∧ getN l i 2 < 65536 := by
  have := getN_range l i 2
  simpa using this
theorem rdT_err {l : List UInt8} {size : Nat} {a0 a1 bits p v e : Int} (h : rdT l size a0 a1 bits p v = .error e) : e ≠ 0 := by
  unfold rdT at h
  by_cases h1 : sd a0 a1 bits = true
  · rw [if_pos h1] at h
    by_cases h2 : (opts (l.drop size)).2 = 0
    · rw [if_pos h2] at h
      cases hs : stL (opts (l.drop size)).1 (-1) with
      | none => rw [hs] at h; injection h with h; omega
      | some c => rw [hs] at h; cases h
    · rw [if_neg h2] at h; injection h with h; omega
  · rw [if_neg h1] at h; injection h with h; omega
theorem rdI_err {kind : Int} {l : List UInt8} {e : Int} (h : rdI kind l = .error e) : e ≠ 0 := by
  unfold rdI at h
  by_cases h4 : kind = 4
  · rw [if_pos h4] at h
    by_cases hc : cutB l 0 25 = true
    · rw [if_pos hc] at h; exact rdT_err h
    · rw [if_neg hc] at h; injection h with h; omega
  · rw [if_neg h4] at h
    by_cases hc : cutB l 0 24 = true
    · rw [if_pos hc] at h; exact rdT_err h
    · rw [if_neg hc] at h; injection h with h; omega
theorem short4 (l : List UInt8) (i : Int) (hi : 4 ≤ i) (h : l.length ≤ 4) : getN l i 4 = 0 := by
  have : cutB l i 4 = false := by
    unfold cutB
    exact decide_eq_false (fun q => by omega)
  unfold getN cutL
  rw [this]
  rfl
def gB (kind : Int) (size : Nat) (part : Int) (l : List UInt8) : Except Int (Int × Int × Int × List S76 × Int) :=
  if cutB l 0 size = true then (if (opts (l.drop size)).2 = 0 then (match glL kind part (opts (l.drop size)).1 [] (-1) with | .ok y => .ok (getN (cutL l 0 size) 0 4, getN (cutL l 0 size) 4 4, getN (cutL l 0 size) 8 4, y.1, y.2) | .error e => .error e) else .error (opts (l.drop size)).2) else .error 3
theorem getB_eq (k : Nat) (hk : 300 ≤ k) (kind : Int) (size : Nat) (hsz : size ≤ 100) (part : Int) (data : ByteArray) (hd : data.size ≤ 4611686018427387904) : getB k kind size part data = some (gB kind size part (L data)) := by
  unfold getB gB
  rw [cut data 0 size hd (by omega) (by omega), Option.bind_some]
  by_cases hc : cutB (L data) 0 size = true
  · have hb := cutB_bound hc
    have hl : (cutL (L data) 0 size).length = size := by rw [cutL_length, if_pos hc]; rfl
    have hz : (B (cutL (L data) 0 size)).size ≤ 4611686018427387904 := by rw [size_B, hl]; omega
    dsimp only
    rw [hc, if_pos rfl, if_pos rfl, get32 (by omega) _ 0 hz (by omega), Option.bind_some, get32 (by omega) _ 4 hz (by omega), Option.bind_some, get32 (by omega) _ 8 hz (by omega), Option.bind_some, L_B, if_pos (by rw [size_L]; omega), parse_eq _ (by rw [ByteArray.size_extract]; omega) k hk, Option.bind_some, extract_from]
    by_cases he : (opts ((L data).drop size)).2 = 0
    · rw [if_pos he, if_pos he, getL_eq k hk kind part _ _ _ (fun x hx => okO_S ((opts_ok _).1 x hx)), Option.bind_some]
      cases glL kind part (opts ((L data).drop size)).1 [] (-1) <;> rfl
    · rw [if_neg he, if_neg he]
  · dsimp only
    rw [if_neg hc, if_neg hc]
def gI (code : Int) (l : List UInt8) : Int × Int × Int × Int × List S76 × Int × Int :=
  if code = 3 then getO 2 (gB 2 12 5 l) else if code = 4 then getO 3 (gB 3 4 5 l) else if code = 25 then getO 4 (gB 4 12 26 l) else (0, 0, 0, 0, [], 0, 130)
theorem get_f (code : Int) (data : ByteArray) (hd : data.size ≤ 4611686018427387904) : opt6_GetIA.f code data = some (gI code (L data)) := by
  unfold opt6_GetIA.f getK gI
  by_cases h3 : code = 3
  · rw [if_pos h3, if_pos h3, getB_eq 1000 (by decide) 2 12 (by decide) 5 data hd, Option.bind_some]
  · rw [if_neg h3, if_neg h3]
    by_cases h4 : code = 4
    · rw [if_pos h4, if_pos h4, getB_eq 1000 (by decide) 3 4 (by decide) 5 data hd, Option.bind_some]
    · rw [if_neg h4, if_neg h4]
      by_cases h25 : code = 25
      · rw [if_pos h25, if_pos h25, getB_eq 1000 (by decide) 4 12 (by decide) 26 data hd, Option.bind_some]
      · rw [if_neg h25, if_neg h25]
end Go.Proofs.Ytngojiikkokajaa.O6
