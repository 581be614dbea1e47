/- Relay: what is written, by the program and by the reference, in one form: plain lemmas; conditions: numbers are of their kind. -/
import Derived.Test.YtfpamalmkmhpgaaG0
import Derived.Test.YtfpamalmkmhpgaaG1
import Derived.Test.YtfpamalmkmhpgaaG2
import Derived.Test.YtfpamalmkmhpgaaG3
import Derived.Laws.BitsAllLaws
import Derived.Lib.Strings
import Derived.Test.YtfpamalmkmhpgaaXRl1
set_option linter.unusedVariables false
set_option linter.unusedSimpArgs false
namespace Go.Proofs.Ytfpamalmkmhpgaa.Rl
open Go Go.RowKit Go.Proofs.YtfpamalmkmhpgaaW.PrintWords Go.Proofs.YtfpamalmkmhpgaaW.PrintLast Go.Proofs.YtfpamalmkmhpgaaW.PrintMore Go.Proofs.Ytfpamalmkmhpgaa.X Go.Proofs.Ytfpamalmkmhpgaa.Oct

def emOk (zs : List S42) : Bool := zs.all fun x => runOk (L x.f1)
def emL : List S42 → List UInt8
  | [] => []
  | x :: zs => (be2 x.f0 ++ runL (L x.f1)) ++ emL zs
def okF (x : S42) : Prop := 0 ≤ x.f0 ∧ x.f0 < 65536
theorem runL_len (l : List UInt8) : (runL l).length ≤ 65537 := by
  unfold runL
  split
  · rename_i h
    simp only [runOk, decide_eq_true_eq] at h
    rw [List.length_append, be2_length]; omega
  · exact Nat.zero_le _
theorem emL_len : ∀ zs : List S42, (emL zs).length ≤ 65539 * zs.length
  | [] => Nat.le_refl _
  | x :: zs => by
    have := emL_len zs
    have := runL_len (L x.f1)
    rw [emL, List.length_append, List.length_append, be2_length, List.length_cons]
    omega
theorem emit_l : ∀ (zs : List S42) (acc : ByteArray), (∀ x ∈ zs, okF x) → acc.size + 65539 * zs.length ≤ 140737488355328 → opt6_Emit.l zs acc = some (if emOk zs = true then (acc ++ B (emL zs), 0) else (NIL, 130))
  | [], acc, _, _ => by
    rw [opt6_Emit.l]
    refine congrArg some (Prod.ext ?_ rfl)
    apply ext_L
    show L acc = L (acc ++ B [])
    rw [L_append, L_B, List.append_nil]
  | x :: zs, acc, hz, hl => by
    have hx := hz x List.mem_cons_self
    rw [List.length_cons] at hl
    rw [opt6_Emit.l, run (by decide) x.f1, Option.bind_some]
    dsimp only
    cases hr : runOk (L x.f1) with
    | false =>
      have he : emOk (x :: zs) = false := by unfold emOk; rw [List.all_cons, hr]; rfl
      rw [if_neg (by decide), he]
      rfl
    | true =>
      have he : emOk (x :: zs) = emOk zs := by unfold emOk; rw [List.all_cons, hr, Bool.true_and]
      have hb := runL_len (L x.f1)
      rw [if_pos rfl, Put16 (by decide) x.f0 hx.1 hx.2, Option.bind_some, if_pos (by rw [size_B, size_B, be2_length]; omega), emit_l zs _ (fun y hy => hz y (List.mem_cons_of_mem _ hy)) (by rw [ByteArray.size_append, ByteArray.size_append, size_B, size_B, be2_length]; omega), he]
      by_cases h : emOk zs = true
      · rw [if_pos h, if_pos h, emL]
        refine congrArg some (Prod.ext ?_ rfl)
        apply ext_L
        simp only [L_append, L_B, List.append_assoc]
      · rw [if_neg h, if_neg h]
theorem emit_eq (zs : List S42) (hz : ∀ x ∈ zs, okF x) (hl : zs.length ≤ 128) : opt6_Emit.f zs = some (if emOk zs = true then (B (emL zs), 0) else (NIL, 130)) := by
  unfold opt6_Emit.f
  rw [if_neg (by omega), emit_l zs _ hz (by show 0 + _ ≤ _; omega)]
  by_cases h : emOk zs = true
  · rw [if_pos h, if_pos h]
    refine congrArg some (Prod.ext ?_ rfl)
    apply ext_L
    rw [L_append, L_B]
    rfl
  · rw [if_neg h, if_neg h]
def ints (l : List UInt8) : List Int := l.map fun c => (c.toNat : Int)
theorem ints_append (a b : List UInt8) : ints (a ++ b) = ints a ++ ints b := by simp [ints]
theorem ints_len (a : List UInt8) : (ints a).length = a.length := by simp [ints]
theorem ints_str (a : List UInt8) : strOfNums (ints a) = B a := by
  rw [strOfNums_B _ (by
    intro x hx
    obtain ⟨c, _, rfl⟩ := List.mem_map.1 hx
    have := c.toNat_lt
    omega)]
  congr 1
  unfold ints
  rw [List.map_map]
  conv => rhs; rw [← List.map_id a]
  apply List.map_congr_left
  intro c _
  exact b8_byte c
/-- Numbers of 64 bits in a relay. -/
def okU (r : S39) : Prop := ((0 ≤ r.f1.f0 ∧ r.f1.f0 < 18446744073709551616) ∧ (0 ≤ r.f1.f1 ∧ r.f1.f1 < 18446744073709551616)) ∧ ((0 ≤ r.f2.f0 ∧ r.f2.f0 < 18446744073709551616) ∧ (0 ≤ r.f2.f1 ∧ r.f2.f1 < 18446744073709551616))
theorem okU_wf {r : S39} (h : wf39 r) : okU r := ⟨⟨wf_u64 h.2.1.1, wf_u64 h.2.1.2⟩, ⟨wf_u64 h.2.2.1.1, wf_u64 h.2.2.1.2⟩⟩
theorem okU_R {r : S39} (h : okR r) : okU r := ⟨h.2.1, h.2.2.1⟩
theorem o_ok (r : S39) (inner : ByteArray) : (∀ x ∈ relay_Wrap.o r inner, okF x) ∧ (relay_Wrap.o r inner).length ≤ 2 := by
  unfold relay_Wrap.o
  split
  · exact ⟨fun x hx => by
      simp only [List.mem_cons, List.not_mem_nil, or_false] at hx
      rcases hx with rfl | rfl
      · exact ⟨by show (0 : Int) ≤ 18; omega, by show (18 : Int) < 65536; omega⟩
      · exact ⟨by show (0 : Int) ≤ 9; omega, by show (9 : Int) < 65536; omega⟩, by simp⟩
  · exact ⟨fun x hx => by
      simp only [List.mem_cons, List.not_mem_nil, or_false] at hx
      subst hx
      exact ⟨by show (0 : Int) ≤ 9; omega, by show (9 : Int) < 65536; omega⟩, by simp⟩
theorem em_val (r : S39) (inner : ByteArray) : relay_Wrap.em r inner = if emOk (relay_Wrap.o r inner) = true then (B (emL (relay_Wrap.o r inner)), 0) else (NIL, 130) := by
  have h := o_ok r inner
  unfold relay_Wrap.em
  rw [emit_eq _ h.1 (by omega)]
  rfl
theorem ad_val (h l : Int) (h0 : 0 ≤ h ∧ h < 18446744073709551616) (h1 : 0 ≤ l ∧ l < 18446744073709551616) : relay_Wrap.ad h l = B (be8 h ++ be8 l) := by
  unfold relay_Wrap.ad
  rw [putAddr (by decide) h l h0 h1]
  rfl
def hdr (kind : Int) (r : S39) : List UInt8 := ([b8 kind, b8 r.f0] ++ (be8 r.f1.f0 ++ be8 r.f1.f1)) ++ (be8 r.f2.f0 ++ be8 r.f2.f1)
theorem hdr_len (kind : Int) (r : S39) : (hdr kind r).length = 34 := rfl
def enc (kind : Int) (r : S39) (inner : ByteArray) : List UInt8 := hdr kind r ++ emL (relay_Wrap.o r inner)
theorem nums2 (a b : Int) : strOfNums [a % 256, b % 256] = B [b8 a, b8 b] := by
  rw [strOfNums_B _ (by intro x hx; simp at hx; omega)]
  simp [b8_mod]
theorem stp_val (kind : Int) (r : S39) (inner : ByteArray) (hu : okU r) (ho : emOk (relay_Wrap.o r inner) = true) : relay_Wrap.stp kind r inner = B (enc kind r inner) := by
  unfold relay_Wrap.stp
  rw [nums2, ad_val _ _ hu.1.1 hu.1.2, ad_val _ _ hu.2.1 hu.2.2, em_val, if_pos ho]
  show ((B _ ++ B _) ++ B _) ++ B _ = _
  rw [B_append, B_append, B_append]
  rfl
theorem l_cons (kind : Int) (r : S39) (t : List S39) (inner : ByteArray) (hu : okU r) : relay_Wrap.l kind (r :: t) inner = if emOk (relay_Wrap.o r inner) = true then relay_Wrap.l kind t (B (enc kind r inner)) else (NIL, 6) := by
  rw [relay_Wrap.l, em_val]
  by_cases h : emOk (relay_Wrap.o r inner) = true
  · rw [if_pos h, if_pos h, if_pos rfl, stp_val kind r inner hu h]
  · rw [if_neg h, if_neg h, if_neg (by decide)]
/-- The reference writes the same. -/
theorem rd39 (xs : List S39) (i : Nat) (h : i < xs.length) : rd_T39 xs (i : Int) = xs[i] := by
  simp [rd_T39, List.getD_eq_getElem?_getD, List.getElem?_eq_getElem h]
def fw (w : ByteArray × Int) : ByteArray × Int := if w.2 = 0 then (if 65507 < w.1.size then (NIL, 6) else w) else (NIL, 6)
theorem emL_bound (r : S39) (inner : ByteArray) : (emL (relay_Wrap.o r inner)).length ≤ 131078 := by
  have := emL_len (relay_Wrap.o r inner)
  have := (o_ok r inner).2
  omega
theorem wbad_iff (r : S39) : wbad r = true ↔ (r.f0 < 0 ∨ r.f0 > 255 ∨ (¬ r.f3.toList = [] ∧ ¬ r.f4 = true)) := by
  unfold wbad
  simp only [Bool.or_eq_true, decide_eq_true_eq, Bool.and_eq_true, Bool.not_eq_true', beq_eq_false_iff_ne, ne_eq, gt_iff_lt, Bool.not_eq_true]
end Go.Proofs.Ytfpamalmkmhpgaa.Rl
