/- Changes read from bytes: plain lemmas; conditions: a string is within the form's reach. -/
import Derived.Test.YtpdopkhdhbdljaaXLea3
set_option linter.unusedVariables false
set_option linter.unusedSimpArgs false
namespace Go.Proofs.Ytpdopkhdhbdljaa.Lea
open Go.RowKit Go.Proofs.YtpdopkhdhbdljaaW.PrintWords Go.Proofs.YtpdopkhdhbdljaaW.PrintLast Go.Proofs.YtpdopkhdhbdljaaW.PrintMore Go.Proofs.Ytpdopkhdhbdljaa.X Go.Proofs.Ytpdopkhdhbdljaa.Oct Go.Proofs.Ytpdopkhdhbdljaa.Adr

def err (e : Int) (ok : Bool) : Int := if ok = true then e else if e = 0 then 3 else e
theorem err_nz {e : Int} (h : e ≠ 0) (ok : Bool) : err e ok = e := by unfold err; rw [if_neg h]; split <;> rfl
theorem err_t (e : Int) : err e true = e := by unfold err; rw [if_pos rfl]
theorem err_f : err 0 false = 3 := by decide
theorem err_zero {e : Int} {ok : Bool} (h : err e ok = 0) : e = 0 ∧ ok = true := by
  unfold err at h
  cases ok with
  | true => rw [if_pos rfl] at h; exact ⟨h, rfl⟩
  | false => rw [if_neg (by decide)] at h; split at h <;> omega
theorem keep_eq (s : ByteArray) (a e n : Int) (ok : Bool) : lease_reader_keep.f s a e n ok = some (s, wrap64 (a + n), err e ok) := by
  unfold lease_reader_keep.f err
  cases ok with
  | true => simp
  | false => by_cases h : e = 0 <;> simp [h]
theorem num1 (x : UInt8) : num [x] = (x.toNat : Int) := by simp [num]
theorem cut_one {l : List UInt8} {a : Int} (h : cutB l a 1 = true) : ∃ x, cutL l a 1 = [x] := by
  have hl := cutL_length l a 1
  rw [h, if_pos rfl] at hl
  match hc : cutL l a 1, hl with
  | [x], _ => exact ⟨x, rfl⟩
theorem octet_eq (s : ByteArray) (a e : Int) (hs : s.size ≤ 4611686018427387904) (ha : 0 ≤ a ∧ a ≤ 4611686018427387904) :
    lease_reader_octet.f s a e = some (getN (L s) a 1, s, a + 1, err e (cutB (L s) a 1)) := by
  unfold lease_reader_octet.f getN
  rw [cut s a 1 hs (by omega) (by omega), Option.bind_some, keep_eq, Option.bind_some, w64 (n := a + 1) (by omega)]
  by_cases h : cutB (L s) a 1 = true
  · obtain ⟨x, hx⟩ := cut_one h
    have hlt := x.toNat_lt
    have hb : bt (B [x]) 0 = (x.toNat : Int) := bt_L (B [x]) 0 (by simp [L_B])
    rw [if_pos h, hx, if_pos (by rw [size_B]; simp), hb, num1, w64 (by omega)]
  · rw [if_neg h]
    have : cutL (L s) a 1 = [] := by unfold cutL; rw [if_neg h]
    rw [this, num_nil]
/-- What stands at a place: the address, the change, where it ends, what is wrong. -/
def rA (l : List UInt8) (a : Int) : Int × Int × Bool := if cutB l (a + 3) 16 = true then (getN (cutL l (a + 3) 16) 0 8, getN (cutL l (a + 3) 16) 8 8, true) else (0, 0, false)
def rC (l : List UInt8) (a : Int) : S31 :=
  if getN l a 1 = 2 then ⟨true, ⟨getN l (a + 1) 1, ⟨⟨(rA l a).1, (rA l a).2.1⟩, getN l (a + 2) 1⟩, 0, ⟨#[]⟩, 0, 0⟩⟩
  else ⟨false, ⟨getN l (a + 1) 1, ⟨⟨(rA l a).1, (rA l a).2.1⟩, getN l (a + 2) 1⟩, getN l (a + 19) 1, B (takeL l (a + 32)), getN l (a + 20) 4, wrap64 (getN l (a + 24) 8)⟩⟩
def rT (l : List UInt8) (a : Int) : Int := if getN l a 1 = 2 then a + 19 else takeTo l (a + 32)
def rE1 (l : List UInt8) (a : Int) : Int := if err 0 (cutB l a 1) = 0 ∧ getN l a 1 ≠ 1 ∧ getN l a 1 ≠ 2 then 4 else err 0 (cutB l a 1)
def rE4 (l : List UInt8) (a : Int) : Int := err (err (err (rE1 l a) (cutB l (a + 1) 1)) (cutB l (a + 2) 1)) (rA l a).2.2
def rE (l : List UInt8) (a : Int) : Int :=
  if getN l a 1 = 2 then rE4 l a else err (err (err (err (rE4 l a) (cutB l (a + 19) 1)) (cutB l (a + 20) 4)) (cutB l (a + 24) 8)) (takeOk l (a + 32))
theorem takeTo_range (l : List UInt8) (a : Int) (ha : 0 ≤ a) : 0 ≤ takeTo l a ∧ takeTo l a ≤ l.length := by
  unfold takeTo takeOk
  split
  · rename_i h
    simp only [Bool.and_eq_true] at h
    have := cutB_bound h.1
    have := cutB_bound h.2
    omega
  · omega
theorem change_read (s : ByteArray) (a : Int) (hs : s.size ≤ 1125899906842624) (ha : 0 ≤ a ∧ a ≤ 1125899906842624) :
    lease_reader_change.f s a 0 = some ((rC (L s) a).f0, (rC (L s) a).f1.f0, (rC (L s) a).f1.f1.f0.f0, (rC (L s) a).f1.f1.f0.f1, (rC (L s) a).f1.f1.f1, (rC (L s) a).f1.f2, (rC (L s) a).f1.f3, (rC (L s) a).f1.f4, (rC (L s) a).f1.f5, s, rT (L s) a, rE (L s) a) := by
  have ht := takeTo_range (L s) (a + 32) (by omega)
  have hl : ((L s).length : Int) = s.size := by rw [size_L]
  unfold lease_reader_change.f
  rw [octet_eq s a 0 (by omega) (by omega), Option.bind_some]
  dsimp only
  rw [show (if err 0 (cutB (L s) a 1) = 0 ∧ getN (L s) a 1 ≠ 1 ∧ getN (L s) a 1 ≠ 2 then (4 : Int) else err 0 (cutB (L s) a 1)) = rE1 (L s) a from rfl]
  rw [octet_eq s (a + 1) _ (by omega) (by omega), Option.bind_some]
  dsimp only
  rw [octet_eq s _ _ (by omega) (by omega), Option.bind_some, show a + 1 + 1 = a + 2 by omega]
  dsimp only
  rw [getAddr (by omega) s _ (by omega) (by omega), Option.bind_some, show a + 2 + 1 = a + 3 by omega, keep_eq, Option.bind_some, w64 (by omega), show a + 3 + 16 = a + 19 by omega]
  dsimp only
  rw [show (if cutB (L s) (a + 3) 16 = true then (getN (cutL (L s) (a + 3) 16) 0 8, getN (cutL (L s) (a + 3) 16) 8 8, true) else ((0 : Int), (0 : Int), false)) = rA (L s) a from rfl]
  rw [show err (err (err (rE1 (L s) a) (cutB (L s) (a + 1) 1)) (cutB (L s) (a + 2) 1)) (rA (L s) a).2.2 = rE4 (L s) a from rfl]
  unfold rC rT rE
  by_cases h2 : getN (L s) a 1 = 2
  · rw [if_pos h2, if_pos h2, if_pos h2, if_pos h2]
  · rw [if_neg h2, if_neg h2, if_neg h2, if_neg h2]
    rw [octet_eq s (a + 19) _ (by omega) (by omega), Option.bind_some]
    dsimp only
    rw [get32 (by omega) s _ (by omega) (by omega), Option.bind_some, show a + 19 + 1 = a + 20 by omega, keep_eq, Option.bind_some, w64 (n := a + 20 + 4) (by omega), show a + 20 + 4 = a + 24 by omega]
    dsimp only
    rw [get64 (by omega) s _ (by omega) (by omega), Option.bind_some, keep_eq, Option.bind_some, w64 (n := a + 24 + 8) (by omega), show a + 24 + 8 = a + 32 by omega]
    dsimp only
    rw [takeRun (by omega) s _ (by omega) (by omega), Option.bind_some, keep_eq, Option.bind_some]
    dsimp only
    rw [w64 (n := takeTo (L s) (a + 32) - (a + 32)) (by omega), show a + 32 + (takeTo (L s) (a + 32) - (a + 32)) = takeTo (L s) (a + 32) by omega, w64 (n := takeTo (L s) (a + 32)) (by omega)]
/-- All of it is there. -/
structure Full (l : List UInt8) (a : Int) : Prop where
  c0 : cutB l a 1 = true
  tag : getN l a 1 = 1 ∨ getN l a 1 = 2
  c1 : cutB l (a + 1) 1 = true
  c2 : cutB l (a + 2) 1 = true
  c3 : cutB l (a + 3) 16 = true
  more : getN l a 1 ≠ 2 → cutB l (a + 19) 1 = true ∧ cutB l (a + 20) 4 = true ∧ cutB l (a + 24) 8 = true ∧ takeOk l (a + 32) = true
theorem rA_ok (l : List UInt8) (a : Int) : (rA l a).2.2 = cutB l (a + 3) 16 := by
  unfold rA
  by_cases h : cutB l (a + 3) 16 = true
  · rw [if_pos h, h]
  · rw [if_neg h]; exact (Bool.eq_false_iff.2 h).symm
theorem full_of {l : List UInt8} {a : Int} (h : rE l a = 0) : Full l a := by
  have key : rE4 l a = 0 → cutB l a 1 = true ∧ (getN l a 1 = 1 ∨ getN l a 1 = 2) ∧ cutB l (a + 1) 1 = true ∧ cutB l (a + 2) 1 = true ∧ cutB l (a + 3) 16 = true := by
    intro h4
    unfold rE4 at h4
    obtain ⟨h4, e3⟩ := err_zero h4
    rw [rA_ok] at e3
    obtain ⟨h4, e2⟩ := err_zero h4
    obtain ⟨h4, e1⟩ := err_zero h4
    unfold rE1 at h4
    split at h4
    · omega
    · rename_i hn
      obtain ⟨_, e0⟩ := err_zero h4
      exact ⟨e0, by omega, e1, e2, e3⟩
  unfold rE at h
  by_cases h2 : getN l a 1 = 2
  · rw [if_pos h2] at h
    obtain ⟨e0, e1, e2, e3, e4⟩ := key h
    exact ⟨e0, e1, e2, e3, e4, fun z => absurd h2 z⟩
  · rw [if_neg h2] at h
    obtain ⟨h, d4⟩ := err_zero h
    obtain ⟨h, d3⟩ := err_zero h
    obtain ⟨h, d2⟩ := err_zero h
    obtain ⟨h, d1⟩ := err_zero h
    obtain ⟨e0, e1, e2, e3, e4⟩ := key h
    exact ⟨e0, e1, e2, e3, e4, fun _ => ⟨d1, d2, d3, d4⟩⟩
theorem rE1_ok {l : List UInt8} {a : Int} (h : cutB l a 1 = true) (ht : getN l a 1 = 1 ∨ getN l a 1 = 2) : rE1 l a = 0 := by
  unfold rE1
  rw [h, err_t, if_neg (by omega)]
theorem rE_full {l : List UInt8} {a : Int} (h : Full l a) : rE l a = 0 := by
  have h4 : rE4 l a = 0 := by
    unfold rE4
    rw [rA_ok, h.c1, h.c2, h.c3, err_t, err_t, err_t, rE1_ok h.c0 h.tag]
  unfold rE
  by_cases h2 : getN l a 1 = 2
  · rw [if_pos h2, h4]
  · obtain ⟨d1, d2, d3, d4⟩ := h.more h2
    rw [if_neg h2, d1, d2, d3, d4, err_t, err_t, err_t, err_t, h4]
theorem err_or {e : Int} (h : e = 0 ∨ e = 3) (ok : Bool) : err e ok = 0 ∨ err e ok = 3 := by
  unfold err
  split
  · exact h
  · split
    · exact .inr rfl
    · exact h
theorem rE_short {l : List UInt8} {a : Int} (h : cutB l a 1 = false ∨ (getN l a 1 = 1 ∨ getN l a 1 = 2)) (hn : ¬ Full l a) : rE l a = 3 := by
  have h1 : rE1 l a = 0 ∨ rE1 l a = 3 := by
    by_cases h0 : cutB l a 1 = true
    · rcases h with h | h
      · rw [h0] at h; cases h
      · exact .inl (rE1_ok h0 h)
    · right
      unfold rE1
      rw [Bool.eq_false_iff.2 h0, err_f, if_neg (by omega)]
  have h4 : rE4 l a = 0 ∨ rE4 l a = 3 := by unfold rE4; exact err_or (err_or (err_or h1 _) _) _
  have : rE l a = 0 ∨ rE l a = 3 := by
    unfold rE
    split
    · exact h4
    · exact err_or (err_or (err_or (err_or h4 _) _) _) _
  exact this.resolve_left (fun z => hn (full_of z))
/-! the bytes of numbers that were read -/
theorem b8_of {n : Int} {x : UInt8} (h : n % 256 = (x.toNat : Int)) : b8 n = x := by
  rw [← b8_mod, h, b8_byte]
theorem be2_of (l : List UInt8) (h : l.length = 2) : be2 (num l) = l := by
  match l, h with
  | [x, y], _ => exact be2_num x y
theorem be4_of (l : List UInt8) (h : l.length = 4) : be4 (num l) = l := by
  match l, h with
  | [x0, x1, x2, x3], _ =>
    have h0 := x0.toNat_lt; have h1 := x1.toNat_lt; have h2 := x2.toNat_lt; have h3 := x3.toNat_lt
    have e : num [x0, x1, x2, x3] = (((x0.toNat : Int) * 256 + x1.toNat) * 256 + x2.toNat) * 256 + x3.toNat := by simp [num]
    rw [e, be4]
    simp only [List.cons.injEq, and_true]
    refine ⟨b8_of ?_, b8_of ?_, b8_of ?_, b8_of ?_⟩ <;> omega
theorem be8_of (l : List UInt8) (h : l.length = 8) : be8 (num l) = l := by
  match l, h with
  | [x0, x1, x2, x3, x4, x5, x6, x7], _ =>
    have h0 := x0.toNat_lt; have h1 := x1.toNat_lt; have h2 := x2.toNat_lt; have h3 := x3.toNat_lt; have h4 := x4.toNat_lt; have h5 := x5.toNat_lt; have h6 := x6.toNat_lt; have h7 := x7.toNat_lt
    have e : num [x0, x1, x2, x3, x4, x5, x6, x7] = (((((((x0.toNat : Int) * 256 + x1.toNat) * 256 + x2.toNat) * 256 + x3.toNat) * 256 + x4.toNat) * 256 + x5.toNat) * 256 + x6.toNat) * 256 + x7.toNat := by simp [num]
    rw [e, be8]
    simp only [List.cons.injEq, and_true]
    refine ⟨b8_of ?_, b8_of ?_, b8_of ?_, b8_of ?_, b8_of ?_, b8_of ?_, b8_of ?_, b8_of ?_⟩ <;> omega
theorem cut_drop {l : List UInt8} {a n : Int} (h : cutB l a n = true) : l.drop a.toNat = cutL l a n ++ l.drop (a + n).toNat := by
  have hb := cutB_bound h
  unfold cutL
  rw [if_pos h, show (a + n).toNat = a.toNat + n.toNat by omega, ← List.drop_drop, List.take_append_drop]
theorem cut_len {l : List UInt8} {a n : Int} (h : cutB l a n = true) : ((cutL l a n).length : Int) = n := by
  have hb := cutB_bound h
  rw [cutL_length, h, if_pos rfl]; omega
theorem one_of {l : List UInt8} {a : Int} (h : cutB l a 1 = true) : [b8 (getN l a 1)] = cutL l a 1 := by
  obtain ⟨x, hx⟩ := cut_one h
  unfold getN
  rw [hx, num1, b8_byte]
theorem two8 (m : List UInt8) (h : m.length = 16) : be8 (getN m 0 8) ++ be8 (getN m 8 8) = m := by
  have c1 : cutB m 0 8 = true := by simp [cutB, h]
  have c2 : cutB m 8 8 = true := by simp [cutB, h]
  have d1 := cut_drop c1
  have d2 := cut_drop c2
  have l1 := cut_len c1
  have l2 := cut_len c2
  unfold getN
  rw [be8_of _ (by omega), be8_of _ (by omega)]
  rw [show (0 : Int).toNat = 0 from rfl, List.drop_zero, show (0 + 8 : Int).toNat = 8 from rfl] at d1
  rw [show (8 : Int).toNat = 8 from rfl, show (8 + 8 : Int).toNat = 16 from rfl, List.drop_of_length_le (l := m) (i := 16) (by omega), List.append_nil] at d2
  rw [← d2]
  exact d1.symm
theorem take_drop {l : List UInt8} {a : Int} (h : takeOk l a = true) : runL (takeL l a) ++ l.drop (takeTo l a).toNat = l.drop a.toNat := by
  have h' := h
  unfold takeOk at h'
  simp only [Bool.and_eq_true] at h'
  obtain ⟨c1, c2⟩ := h'
  have d1 := cut_drop c1
  have d2 := cut_drop c2
  have l1 := cut_len c1
  have l2 := cut_len c2
  have hr := getN_range l a 2
  have hr2 : getN l a 2 < 65536 := by simpa using hr.2
  have b1 := cutB_bound c1
  unfold takeL takeTo
  rw [if_pos h, if_pos h]
  unfold runL runOk
  rw [if_pos (by simp only [decide_eq_true_eq]; omega), d1, d2, List.append_assoc]
  have : be2 ((cutL l (a + 2) (getN l a 2)).length : Int) = cutL l a 2 := by
    rw [l2]
    unfold getN
    exact be2_of _ (by omega)
  rw [this]
/-- What is read is what would have been written. -/
theorem read_written {l : List UInt8} {a : Int} (ha : 0 ≤ a) (h : Full l a) : l.drop a.toNat = encC (rC l a) ++ l.drop (rT l a).toNat ∧ a + 19 ≤ rT l a ∧ rT l a ≤ l.length := by
  have d0 := cut_drop h.c0
  have d1 := cut_drop h.c1
  have d2 := cut_drop h.c2
  have d3 := cut_drop h.c3
  have b3 := cutB_bound h.c3
  rw [show a + 1 + 1 = a + 2 by omega] at d1
  rw [show a + 2 + 1 = a + 3 by omega] at d2
  rw [show a + 3 + 16 = a + 19 by omega] at d3
  have e3 : be8 (rA l a).1 ++ be8 (rA l a).2.1 = cutL l (a + 3) 16 := by
    unfold rA
    rw [if_pos h.c3]
    exact two8 _ (by have := cut_len h.c3; omega)
  have head : l.drop a.toNat = [b8 (getN l a 1), b8 (getN l (a + 1) 1), b8 (getN l (a + 2) 1)] ++ (be8 (rA l a).1 ++ be8 (rA l a).2.1) ++ l.drop (a + 19).toNat := by
    rw [d0, d1, d2, d3, e3, ← one_of h.c0, ← one_of h.c1, ← one_of h.c2]
    simp
  unfold rC rT
  by_cases h2 : getN l a 1 = 2
  · rw [if_pos h2, if_pos h2, head, h2]
    refine ⟨?_, by omega, by omega⟩
    unfold encC
    dsimp only
    rw [if_pos rfl, if_pos rfl, List.append_nil]
  · obtain ⟨c4, c5, c6, c7⟩ := h.more h2
    have h1 : getN l a 1 = 1 := h.tag.resolve_right h2
    have d4 := cut_drop c4
    have d5 := cut_drop c5
    have d6 := cut_drop c6
    have d7 := take_drop c7
    have tr := takeTo_range l (a + 32) (by omega)
    have g8 : 0 ≤ getN l (a + 24) 8 ∧ getN l (a + 24) 8 < 256 ^ 8 := getN_range l (a + 24) 8
    have g8' : getN l (a + 24) 8 < 18446744073709551616 := by simpa using g8.2
    rw [show a + 19 + 1 = a + 20 by omega] at d4
    rw [show a + 20 + 4 = a + 24 by omega] at d5
    rw [show a + 24 + 8 = a + 32 by omega] at d6
    have e5 : be4 (getN l (a + 20) 4) = cutL l (a + 20) 4 := by unfold getN; exact be4_of _ (by have := cut_len c5; omega)
    have e6 : be8 (wrap64 (getN l (a + 24) 8) % 18446744073709551616) = cutL l (a + 24) 8 := by
      rw [show wrap64 (getN l (a + 24) 8) % 18446744073709551616 = getN l (a + 24) 8 by unfold wrap64; omega]
      unfold getN; exact be8_of _ (by have := cut_len c6; omega)
    rw [if_neg h2, if_neg h2, head, h1, d4, d5, d6, ← d7]
    refine ⟨?_, ?_, tr.2⟩
    · unfold encC
      dsimp only
      rw [if_neg (by decide), if_neg (by decide), ← one_of c4, e5, e6, L_B]
      simp
    · unfold takeTo
      rw [if_pos c7]
      have hg : 0 ≤ getN l (a + 32) 2 ∧ _ := getN_range l (a + 32) 2
      omega
/-- A change that is written is read again. -/
theorem written_read (pre post : List UInt8) (c : S31) (hf : Fit c) (hp : chgP c) : Full (pre ++ encC c ++ post) (pre.length : Int) ∧ rC (pre ++ encC c ++ post) (pre.length : Int) = c ∧ rT (pre ++ encC c ++ post) (pre.length : Int) = ((pre.length + (encC c).length : Nat) : Int) := by
  obtain ⟨g, kd, ⟨⟨hi, lo⟩, bits⟩, st, cl, id, un⟩ := c
  obtain ⟨f1, f2, f3⟩ := hf
  dsimp only at f1 f2 f3
  have hk : 0 ≤ kd ∧ kd < 256 ∧ 0 ≤ bits ∧ bits < 256 := by
    have hr : right kd hi.toNat lo.toNat bits := by
      rcases hp with ⟨_, r, _⟩ | ⟨_, r, _⟩ <;> exact r
    rcases hr with ⟨_, _, _⟩ | ⟨_, _⟩ | ⟨_, _, _, _⟩ <;> omega
  have nb : ∀ x : Int, 0 ≤ x ∧ x < 256 → num [b8 x] = x := fun x hx => by rw [num1, b8_nat]; omega
  -- the pieces in the midst
  have mid : ∀ (p w q : List UInt8) (n : Int), n = w.length → cutB (p ++ w ++ q) (p.length : Int) n = true ∧ cutL (p ++ w ++ q) (p.length : Int) n = w := fun p w q n hn => ⟨cutB_mid p w q n hn, cutL_mid p w q n hn⟩
  generalize hl : pre ++ encC _ ++ post = l
  generalize hrest : (if g = true then ([] : List UInt8) else [b8 st] ++ (be4 id ++ (be8 (un % 18446744073709551616) ++ runL (L cl)))) = rest
  have hl2 : l = pre ++ ([b8 (if g = true then 2 else 1)] ++ ([b8 kd] ++ ([b8 bits] ++ ((be8 hi ++ be8 lo) ++ (rest ++ post))))) := by
    rw [← hl, ← hrest]; unfold encC; simp
  have a0 := mid pre [b8 (if g = true then 2 else 1)] ([b8 kd] ++ ([b8 bits] ++ ((be8 hi ++ be8 lo) ++ (rest ++ post)))) 1 rfl
  have a1 := mid (pre ++ [b8 (if g = true then 2 else 1)]) [b8 kd] ([b8 bits] ++ ((be8 hi ++ be8 lo) ++ (rest ++ post))) 1 rfl
  have a2 := mid (pre ++ [b8 (if g = true then 2 else 1)] ++ [b8 kd]) [b8 bits] ((be8 hi ++ be8 lo) ++ (rest ++ post)) 1 rfl
  have a3 := mid (pre ++ [b8 (if g = true then 2 else 1)] ++ [b8 kd] ++ [b8 bits]) (be8 hi ++ be8 lo) (rest ++ post) 16 rfl
  have q0 : pre ++ [b8 (if g = true then 2 else 1)] ++ ([b8 kd] ++ ([b8 bits] ++ ((be8 hi ++ be8 lo) ++ (rest ++ post)))) = l := by rw [hl2]; simp
  have q1 : pre ++ [b8 (if g = true then 2 else 1)] ++ [b8 kd] ++ ([b8 bits] ++ ((be8 hi ++ be8 lo) ++ (rest ++ post))) = l := by rw [hl2]; simp
  have q2 : pre ++ [b8 (if g = true then 2 else 1)] ++ [b8 kd] ++ [b8 bits] ++ ((be8 hi ++ be8 lo) ++ (rest ++ post)) = l := by rw [hl2]; simp
  have q3 : pre ++ [b8 (if g = true then 2 else 1)] ++ [b8 kd] ++ [b8 bits] ++ (be8 hi ++ be8 lo) ++ (rest ++ post) = l := by rw [hl2]; simp
  rw [q0] at a0
  rw [q1] at a1
  rw [q2] at a2
  rw [q3] at a3
  rw [show ((pre ++ [b8 (if g = true then 2 else 1)]).length : Int) = (pre.length : Int) + 1 by simp] at a1
  rw [show ((pre ++ [b8 (if g = true then 2 else 1)] ++ [b8 kd]).length : Int) = (pre.length : Int) + 2 by simp <;> omega] at a2
  rw [show ((pre ++ [b8 (if g = true then 2 else 1)] ++ [b8 kd] ++ [b8 bits]).length : Int) = (pre.length : Int) + 3 by simp <;> omega] at a3
  have t0 : getN l (pre.length : Int) 1 = if g = true then 2 else 1 := by unfold getN; rw [a0.2, nb _ (by split <;> omega)]
  have t1 : getN l ((pre.length : Int) + 1) 1 = kd := by unfold getN; rw [a1.2, nb _ (by omega)]
  have t2 : getN l ((pre.length : Int) + 2) 1 = bits := by unfold getN; rw [a2.2, nb _ (by omega)]
  have t3 : rA l (pre.length : Int) = (hi, lo, true) := by
    unfold rA
    rw [if_pos a3.1, a3.2]
    have := getN_head (be8 hi) (be8 lo) 8 rfl
    have h2 := getN_mid (be8 hi) (be8 lo) [] 8 rfl
    rw [List.append_nil] at h2
    have h2' : getN (be8 hi ++ be8 lo) 8 8 = num (be8 lo) := h2
    rw [this, h2', num_be8 hi f1.1 f1.2, num_be8 lo f2.1 f2.2]
  cases g with
  | true =>
    rw [if_pos rfl] at t0
    have hcl : st = 0 ∧ L cl = [] ∧ id = 0 ∧ un = 0 := by
      rcases hp with ⟨_, _, h⟩ | ⟨h, _⟩
      · exact h
      · cases h
    obtain ⟨rfl, hcl, rfl, rfl⟩ := hcl
    refine ⟨⟨a0.1, .inr t0, a1.1, a2.1, a3.1, fun z => absurd t0 z⟩, ?_, ?_⟩
    · unfold rC
      rw [if_pos t0, t1, t2, t3]
      have : cl = ⟨#[]⟩ := by apply ext_L; rw [hcl]; rfl
      rw [this]
    · unfold rT
      rw [if_pos t0]
      simp [encC, be8_length] <;> omega
  | false =>
    rw [if_neg (by decide)] at t0
    have hs : soundP ⟨false, ⟨kd, ⟨⟨hi, lo⟩, bits⟩, st, cl, id, un⟩⟩ := by
      rcases hp with ⟨h, _⟩ | ⟨_, h⟩
      · cases h
      · exact h
    have hst : 0 ≤ st ∧ st < 256 ∧ (L cl).length ≤ 130 := by
      rcases hs.2.2.2 with ⟨h, _, h2, _⟩ | ⟨h, _, h2, _⟩
      · have : st = 1 := h
        have : (L cl).length ≤ 130 := h2
        omega
      · have : st = 2 := h
        have h2 : L cl = [] := h2
        rw [h2]; simp; omega
    have hun : 0 ≤ un ∧ un ≤ 1099511627776 := ⟨hs.2.1, hs.2.2.1⟩
    rw [if_neg (by decide)] at hrest
    have hru : runL (L cl) = be2 (L cl).length ++ L cl := by
      unfold runL runOk
      rw [if_pos (by simp only [decide_eq_true_eq]; omega)]
    -- head of 19, and on
    generalize hH : pre ++ [b8 (if false = true then 2 else 1)] ++ [b8 kd] ++ [b8 bits] ++ (be8 hi ++ be8 lo) = H at q3
    have hHl : (H.length : Int) = (pre.length : Int) + 19 := by rw [← hH]; simp [be8_length] <;> omega
    rw [← hrest, hru] at q3
    have a4 := mid H [b8 st] ((be4 id ++ (be8 (un % 18446744073709551616) ++ (be2 (L cl).length ++ L cl))) ++ post) 1 rfl
    have a5 := mid (H ++ [b8 st]) (be4 id) ((be8 (un % 18446744073709551616) ++ (be2 (L cl).length ++ L cl)) ++ post) 4 rfl
    have a6 := mid (H ++ [b8 st] ++ be4 id) (be8 (un % 18446744073709551616)) ((be2 (L cl).length ++ L cl) ++ post) 8 rfl
    have a7 := take_mid (H ++ [b8 st] ++ be4 id ++ be8 (un % 18446744073709551616)) (L cl) post (by omega)
    have r4 : H ++ [b8 st] ++ ((be4 id ++ (be8 (un % 18446744073709551616) ++ (be2 (L cl).length ++ L cl))) ++ post) = l := by rw [← q3]; simp
    have r5 : H ++ [b8 st] ++ be4 id ++ ((be8 (un % 18446744073709551616) ++ (be2 (L cl).length ++ L cl)) ++ post) = l := by rw [← q3]; simp
    have r6 : H ++ [b8 st] ++ be4 id ++ be8 (un % 18446744073709551616) ++ ((be2 (L cl).length ++ L cl) ++ post) = l := by rw [← q3]; simp
    have r7 : H ++ [b8 st] ++ be4 id ++ be8 (un % 18446744073709551616) ++ (be2 (L cl).length ++ L cl) ++ post = l := by rw [← q3]; simp
    rw [r4] at a4
    rw [r5] at a5
    rw [r6] at a6
    rw [r7] at a7
    rw [hHl] at a4
    rw [show ((H ++ [b8 st]).length : Int) = (pre.length : Int) + 20 by simp <;> omega] at a5
    rw [show ((H ++ [b8 st] ++ be4 id).length : Int) = (pre.length : Int) + 24 by simp [be4_length] <;> omega] at a6
    rw [show ((H ++ [b8 st] ++ be4 id ++ be8 (un % 18446744073709551616)).length : Int) = (pre.length : Int) + 32 by simp [be4_length, be8_length] <;> omega] at a7
    have t4 : getN l ((pre.length : Int) + 19) 1 = st := by unfold getN; rw [a4.2, nb _ (by omega)]
    have t5 : getN l ((pre.length : Int) + 20) 4 = id := by unfold getN; rw [a5.2, num_be4 id f3.1 f3.2]
    have t6 : getN l ((pre.length : Int) + 24) 8 = un := by unfold getN; rw [a6.2, num_be8 _ (by omega) (by omega)]; omega
    have hn2 : getN l (pre.length : Int) 1 ≠ 2 := by omega
    refine ⟨⟨a0.1, .inl t0, a1.1, a2.1, a3.1, fun _ => ⟨a4.1, a5.1, a6.1, a7.1⟩⟩, ?_, ?_⟩
    · unfold rC
      rw [if_neg hn2, t1, t2, t3, t4, t5, t6, a7.2.1, B_L, w64 (by omega)]
    · unfold rT
      rw [if_neg hn2, a7.2.2]
      simp [encC, be8_length, be4_length, hru, be2_length] <;> omega
end Go.Proofs.Ytpdopkhdhbdljaa.Lea
