/- Relay: what is read, by the program and by the reference, in one form: plain lemmas; conditions: strings are within 2^16. -/
import Derived.Test.YtfpamalmkmhpgaaG0
import Derived.Test.YtfpamalmkmhpgaaG1
import Derived.Test.YtfpamalmkmhpgaaG2
import Derived.Test.YtfpamalmkmhpgaaG3
import Derived.Laws.BitsAllLaws
import Derived.Lib.Strings
import Derived.Test.YtfpamalmkmhpgaaXOct
set_option linter.unusedVariables false
set_option linter.unusedSimpArgs false
namespace Go.Proofs.Ytfpamalmkmhpgaa.Rl
open Go Go.RowKit Go.Proofs.YtfpamalmkmhpgaaW.PrintWords Go.Proofs.YtfpamalmkmhpgaaW.PrintLast Go.Proofs.YtfpamalmkmhpgaaW.PrintMore Go.Proofs.Ytfpamalmkmhpgaa.X Go.Proofs.Ytfpamalmkmhpgaa.Oct

abbrev R9 := Int × Int × Int × Int × Int × ByteArray × Bool × ByteArray × Int
abbrev NIL : ByteArray := ⟨#[]⟩
/-- Options read one behind the other. -/
def prs (l : List UInt8) : Nat → List S42 → Int → List S42 × Int
  | 0, acc, _ => (acc, 0)
  | d + 1, acc, i => if i < l.length then (if cutB l i 2 = true ∧ takeOk l (i + 2) = true then (if 128 ≤ acc.length then ([], 6) else prs l d (acc ++ [⟨getN l i 2, B (takeL l (i + 2))⟩]) (takeTo l (i + 2))) else ([], 3)) else (acc, 0)
theorem take_bound {l : List UInt8} {i : Int} (h : takeOk l (i + 2) = true) : i + 4 ≤ takeTo l (i + 2) ∧ takeTo l (i + 2) ≤ l.length := by
  have hr := getN_range l (i + 2) 2
  unfold takeTo
  rw [if_pos h]
  unfold takeOk at h
  rw [Bool.and_eq_true] at h
  have := cutB_bound h.2
  omega
theorem parse_go (s : ByteArray) (hs : s.size ≤ 4611686018427387904) (d : Nat) : ∀ (k : Nat) (acc : List S42) (i : Int), 0 ≤ i → i ≤ s.size → (s.size : Int) - i < d → 2 * d + 20 ≤ k → acc.length ≤ 128 →
    opt6_Parse.l0 k s acc i = some (prs (L s) d acc i) := by
  have hsz : ((L s).length : Int) = s.size := by rw [size_L]
  induction d with
  | zero => intro k acc i h0 h1 hd; omega
  | succ d ih =>
    intro k acc i h0 h1 hd hk hacc
    obtain ⟨k, rfl⟩ : ∃ m, k = m + 2 := ⟨k - 2, by omega⟩
    rw [opt6_Parse.l0, prs]
    by_cases hlt : i < (s.size : Int)
    · rw [if_pos hlt, if_pos (by rw [hsz]; exact hlt), get16 (by omega) s i hs (by omega), Option.bind_some, w64 (n := i + 2) (by omega), takeRun (by omega) s (i + 2) hs (by omega), Option.bind_some]
      dsimp only
      have hj : ∀ b, opt6_Parse.j1 (k + 1) s acc (getN (L s) i 2) (B (takeL (L s) (i + 2))) (takeTo (L s) (i + 2)) b = if b = true then some (([] : List S42), 3) else if 128 ≤ acc.length then some ([], 6) else opt6_Parse.l0 k s (acc ++ [⟨getN (L s) i 2, B (takeL (L s) (i + 2))⟩]) (takeTo (L s) (i + 2)) := by
        intro b
        rw [opt6_Parse.j1]
        by_cases hb : b = true
        · rw [if_pos hb, if_pos hb]
        · rw [if_neg hb, if_neg hb]
          by_cases h128 : 128 ≤ acc.length
          · rw [if_pos (by omega), if_pos h128]
          · rw [if_neg (by omega), if_neg h128, if_pos (by omega)]
      by_cases hc : cutB (L s) i 2 = true
      · rw [if_pos hc, hj]
        by_cases ht : takeOk (L s) (i + 2) = true
        · rw [if_neg (by rw [ht]; decide), if_pos (show cutB (L s) i 2 = true ∧ takeOk (L s) (i + 2) = true from ⟨hc, ht⟩)]
          have hb := take_bound ht
          by_cases h128 : 128 ≤ acc.length
          · rw [if_pos h128, if_pos h128]
          · rw [if_neg h128, if_neg h128]
            exact ih k _ _ (by omega) (by omega) (by omega) (by omega) (by rw [List.length_append, List.length_singleton]; omega)
        · rw [if_pos (by rw [Bool.eq_false_iff.2 ht]; rfl), if_neg (fun h => ht h.2)]
      · rw [if_neg hc, hj, if_pos rfl, if_neg (fun h => hc h.1)]
    · rw [if_neg hlt, if_neg (by rw [hsz]; exact hlt)]
/-- What stands in what was read: runs, and numbers of 16 bits. -/
def okO (x : S42) : Prop := x.f1.size ≤ 65535 ∧ 0 ≤ x.f0 ∧ x.f0 < 65536
theorem takeL_small (l : List UInt8) (i : Int) : (takeL l i).length ≤ 65535 := by
  have hr := getN_range l i 2
  have hr2 : getN l i 2 < 65536 := by simpa using hr.2
  unfold takeL
  split
  · rw [cutL_length]; split <;> omega
  · exact Nat.zero_le _
theorem prs_ok_ (l : List UInt8) (d : Nat) : ∀ (acc : List S42) (i : Int) (r : List S42 × Int), acc.length ≤ 128 → (∀ x ∈ acc, okO x) → prs l d acc i = r → (∀ x ∈ r.1, okO x) ∧ r.1.length ≤ 128 := by
  induction d with
  | zero => intro acc i r hl h e; rw [prs] at e; subst e; exact ⟨h, hl⟩
  | succ d ih =>
    intro acc i r hl h e
    rw [prs] at e
    by_cases h1 : i < (l.length : Int)
    · rw [if_pos h1] at e
      by_cases h2 : cutB l i 2 = true ∧ takeOk l (i + 2) = true
      · rw [if_pos h2] at e
        by_cases h3 : 128 ≤ acc.length
        · rw [if_pos h3] at e; subst e; exact ⟨fun x hx => (by cases hx), Nat.zero_le _⟩
        · rw [if_neg h3] at e
          refine ih _ _ r (by rw [List.length_append, List.length_singleton]; omega) (fun x hx => ?_) e
          rcases List.mem_append.1 hx with hx | hx
          · exact h x hx
          · obtain rfl := List.mem_singleton.1 hx
            have hr := getN_range l i 2
            exact ⟨takeL_small _ _, hr.1, by simpa using hr.2⟩
      · rw [if_neg h2] at e; subst e; exact ⟨fun x hx => (by cases hx), Nat.zero_le _⟩
    · rw [if_neg h1] at e; subst e; exact ⟨h, hl⟩
theorem prs_ok (l : List UInt8) (d : Nat) (acc : List S42) (i : Int) (hl : acc.length ≤ 128) (h : ∀ x ∈ acc, okO x) : (∀ x ∈ (prs l d acc i).1, okO x) ∧ (prs l d acc i).1.length ≤ 128 := prs_ok_ l d acc i _ hl h rfl
/-- The message and the interface among the options. -/
def pick : List S42 → Nat → ByteArray → ByteArray → Bool → Option (ByteArray × Bool × ByteArray)
  | [], c, b, s, h => if c = 1 then some (s, h, b) else none
  | x :: l, c, b, s, h => if x.f0 = 9 then pick l (c + 1) x.f1 s h else if x.f0 = 18 then (if h = true then none else pick l c b x.f1 true) else pick l c b s h
def fin (a0 a1 a2 a3 a4 : Int) : Option (ByteArray × Bool × ByteArray) → R9
  | some (s, h, b) => (a0, a1, a2, a3, a4, s, h, b, 0)
  | none => (0, 0, 0, 0, 0, NIL, false, NIL, 171)
theorem drop_at (zs : List S42) (i : Nat) (h : i < zs.length) : zs.drop i = rd_T42 zs (i : Int) :: zs.drop (i + 1) := by
  rw [List.drop_eq_getElem_cons h]
  simp [rd_T42, List.getD_eq_getElem?_getD, List.getElem?_eq_getElem h]
theorem one_go (zs : List S42) (hz : zs.length ≤ 128) (a0 a1 a2 a3 a4 : Int) (d : Nat) : ∀ (k i : Nat) (xs : List ByteArray) (c : Nat) (b s : ByteArray) (h : Bool), zs.length - i = d → i ≤ zs.length → 2 * d + 2 ≤ k → xs.length = c → (c = 1 → xs = [b]) → c + d ≤ 1000 →
    relay_one.l0 k xs zs (zs.length : Int) (i : Int) a0 a1 a2 a3 a4 s h = some (fin a0 a1 a2 a3 a4 (pick (zs.drop i) c b s h)) := by
  induction d with
  | zero =>
    intro k i xs c b s h hd hi hk hx hb hc
    obtain ⟨k, rfl⟩ : ∃ m, k = m + 1 := ⟨k - 1, by omega⟩
    rw [relay_one.l0, if_neg (by omega), List.drop_of_length_le (by omega), pick]
    by_cases h1 : c = 1
    · rw [if_pos (by omega), if_pos (by omega), if_pos h1, hb h1]; rfl
    · rw [if_neg (by omega), if_neg h1]; rfl
  | succ d ih =>
    intro k i xs c b s h hd hi hk hx hb hc
    obtain ⟨k, rfl⟩ : ∃ m, k = m + 2 := ⟨k - 2, by omega⟩
    have hlt : i < zs.length := by omega
    rw [relay_one.l0, if_pos (by omega), if_pos (by omega), if_pos (by omega), drop_at zs i hlt, pick, w64 (by omega)]
    generalize rd_T42 zs (i : Int) = x
    by_cases h9 : x.f0 = 9
    · rw [if_pos h9, if_pos h9, if_pos (by omega)]
      exact ih (k + 1) (i + 1) _ (c + 1) x.f1 s h (by omega) (by omega) (by omega) (by rw [List.length_append, List.length_singleton, hx]) (fun h1 => by
        have : xs = [] := List.length_eq_zero_iff.1 (by omega)
        rw [this]; rfl) (by omega)
    · rw [if_neg h9, if_neg h9]
      by_cases h18 : x.f0 = 18
      · rw [if_pos h18, if_pos h18, relay_one.j1]
        by_cases hh : h = true
        · rw [if_pos hh, if_pos hh]; rfl
        · rw [if_neg hh, if_neg hh, if_pos h18, w64 (by omega)]
          exact ih k (i + 1) xs c b x.f1 true (by omega) (by omega) (by omega) hx hb (by omega)
      · rw [if_neg h18, if_neg h18, relay_one.j1, if_neg (by decide), if_neg h18, w64 (by omega)]
        exact ih k (i + 1) xs c b s h (by omega) (by omega) (by omega) hx hb (by omega)
/-- One relay read. -/
def opts (l : List UInt8) : List S42 × Int := prs (l.drop 34) ((l.drop 34).length + 1) [] 0
def oneS (l : List UInt8) : R9 :=
  if l.length < 34 then (0, 0, 0, 0, 0, NIL, false, NIL, 3) else
  if (opts l).2 = 0 then fin ((l.getD 1 0).toNat : Int) (getN (cutL l 2 16) 0 8) (getN (cutL l 2 16) 8 8) (getN (cutL l 18 16) 0 8) (getN (cutL l 18 16) 8 8) (pick (opts l).1 0 NIL NIL false) else (0, 0, 0, 0, 0, NIL, false, NIL, (opts l).2)
theorem extract34 (s : ByteArray) : L (s.extract 34 s.size) = (L s).drop 34 := by
  rw [L_extract, List.take_of_length_le (by rw [List.length_drop, size_L]; omega)]
theorem cut_cut (l : List UInt8) (h : 34 ≤ l.length) (i : Nat) (hi : i + 16 ≤ 34) : cutL (cutL l 0 34) (i : Int) 16 = cutL l (i : Int) 16 ∧ cutB (cutL l 0 34) (i : Int) 16 = true ∧ cutB l (i : Int) 16 = true := by
  have hb : cutB l 0 34 = true := by simp only [cutB, decide_eq_true_eq]; omega
  have hl : (cutL l 0 34).length = 34 := by rw [cutL_length, hb]; rfl
  have h1 : cutB (cutL l 0 34) (i : Int) 16 = true := by simp only [cutB, decide_eq_true_eq, hl]; omega
  have h2 : cutB l (i : Int) 16 = true := by simp only [cutB, decide_eq_true_eq]; omega
  refine ⟨?_, h1, h2⟩
  have e : cutL l 0 34 = l.take 34 := by unfold cutL; rw [hb, if_pos rfl]; rfl
  rw [e] at h1 ⊢
  unfold cutL
  rw [h1, h2, if_pos rfl, if_pos rfl, Int.toNat_natCast, List.drop_take, List.take_take]
  congr 1
  show min 16 (34 - i) = 16
  omega
theorem parse_opts (s : ByteArray) (hs : s.size ≤ 65536) (k : Nat) (hk : 140000 ≤ k) : opt6_Parse.f k (s.extract 34 s.size) = some (opts (L s)) := by
  unfold opt6_Parse.f opts
  have he := extract34 s
  have hz : (s.extract 34 s.size).size ≤ s.size := by rw [ByteArray.size_extract]; omega
  rw [parse_go (s.extract 34 s.size) (by omega) ((s.extract 34 s.size).size + 1) k [] 0 (by omega) (by omega) (by omega) (by omega) (by decide), he, size_L, he]
theorem bt_getD (s : ByteArray) (i : Nat) (h : i < s.size) : bt s (i : Int) = (((L s).getD i 0).toNat : Int) := by
  rw [bt_L s i (by rw [← size_L]; exact h), List.getD_eq_getElem?_getD, List.getElem?_eq_getElem (by rw [← size_L]; exact h)]
  rfl
theorem byte_range (c : UInt8) : -9223372036854775808 ≤ (c.toNat : Int) ∧ (c.toNat : Int) ≤ 9223372036854775807 := by have := c.toNat_lt; omega
theorem one_eq (s : ByteArray) (hs : s.size ≤ 65536) (k : Nat) (hk : 140000 ≤ k) : relay_one.f k s = some (oneS (L s)) := by
  unfold relay_one.f oneS
  have hsz : (L s).length = s.size := by rw [size_L]
  rw [cut s 0 34 (by omega) (by omega) (by omega), Option.bind_some]
  dsimp only
  by_cases h : (L s).length < 34
  · rw [if_pos h, if_neg (by simp only [cutB, decide_eq_true_eq]; omega)]
  · have hb : cutB (L s) 0 34 = true := by simp only [cutB, decide_eq_true_eq]; omega
    have hl : (cutL (L s) 0 34).length = 34 := by rw [cutL_length, hb]; rfl
    rw [if_neg h, if_pos hb, if_pos (by omega), parse_opts s hs k hk, Option.bind_some]
    by_cases he : (opts (L s)).2 = 0
    · obtain ⟨c1, c2, c3⟩ := cut_cut (L s) (by omega) 2 (by omega)
      obtain ⟨d1, d2, d3⟩ := cut_cut (L s) (by omega) 18 (by omega)
      have hB : (L (B (cutL (L s) 0 34))) = cutL (L s) 0 34 := L_B _
      have hy : wrap64 (bt (B (cutL (L s) 0 34)) 1) = (((L s).getD 1 0).toNat : Int) := by
        have := bt_getD (B (cutL (L s) 0 34)) 1 (by rw [size_B, hl]; decide)
        rw [show ((1 : Nat) : Int) = 1 from rfl] at this
        have e : cutL (L s) 0 34 = (L s).take 34 := by unfold cutL; rw [hb, if_pos rfl]; rfl
        rw [this, w64 (byte_range _), L_B, e, List.getD_eq_getElem?_getD, List.getD_eq_getElem?_getD, List.getElem?_take_of_lt (by decide)]
      have ho := prs_ok ((L s).drop 34) (((L s).drop 34).length + 1) [] 0 (by decide) (fun x hx => by cases hx)
      have e2 : ((2 : Nat) : Int) = 2 := rfl
      have e18 : ((18 : Nat) : Int) = 18 := rfl
      rw [e2] at c1 c2 c3
      rw [e18] at d1 d2 d3
      rw [if_pos he, if_pos he, if_pos (by rw [size_B, hl]; decide), getAddr (by omega) _ 2 (by rw [size_B, hl]; decide) (by omega), Option.bind_some, getAddr (by omega) _ 18 (by rw [size_B, hl]; decide) (by omega), Option.bind_some, hB, if_pos c2, if_pos d2, c1, d1, hy]
      exact one_go (opts (L s)).1 ho.2 _ _ _ _ _ _ k 0 [] 0 NIL NIL false rfl (by omega) (by have := ho.2; show 2 * ((opts (L s)).1.length - 0) + 2 ≤ k; unfold opts; omega) rfl (by decide) (by have := ho.2; show 0 + ((opts (L s)).1.length - 0) ≤ 1000; unfold opts; omega)
    · rw [if_neg he, if_neg he]
/-- What is picked comes from the options. -/
theorem pick_small : ∀ (zs : List S42) (c : Nat) (b s : ByteArray) (h : Bool) (r : ByteArray × Bool × ByteArray), (∀ x ∈ zs, okO x) → b.size ≤ 65535 → s.size ≤ 65535 → (h = false → s = NIL) → pick zs c b s h = some r → r.2.2.size ≤ 65535 ∧ r.1.size ≤ 65535 ∧ (r.2.1 = false → r.1 = NIL)
  | [], c, b, s, h, r, hz, hb, hs, hh, e => by
    rw [pick] at e
    split at e
    · obtain rfl := Option.some.inj e; exact ⟨hb, hs, hh⟩
    · cases e
  | x :: l, c, b, s, h, r, hz, hb, hs, hh, e => by
    have hx := hz x List.mem_cons_self
    have hz' : ∀ y ∈ l, okO y := fun y hy => hz y (List.mem_cons_of_mem _ hy)
    rw [pick] at e
    split at e
    · exact pick_small l _ _ _ _ r hz' hx.1 hs hh e
    · split at e
      · split at e
        · cases e
        · exact pick_small l _ _ _ _ r hz' hb hx.1 (fun h => by cases h) e
      · exact pick_small l _ _ _ _ r hz' hb hs hh e
/-- A relay as it can be read. -/
def rel (o : R9) : S39 := ⟨o.1, ⟨o.2.1, o.2.2.1⟩, ⟨o.2.2.2.1, o.2.2.2.2.1⟩, o.2.2.2.2.2.1, o.2.2.2.2.2.2.1⟩
def okR (r : S39) : Prop := (0 ≤ r.f0 ∧ r.f0 ≤ 255) ∧ ((0 ≤ r.f1.f0 ∧ r.f1.f0 < 18446744073709551616) ∧ (0 ≤ r.f1.f1 ∧ r.f1.f1 < 18446744073709551616)) ∧ ((0 ≤ r.f2.f0 ∧ r.f2.f0 < 18446744073709551616) ∧ (0 ≤ r.f2.f1 ∧ r.f2.f1 < 18446744073709551616)) ∧ (r.f4 = false → r.f3 = NIL)
theorem getN8 (l : List UInt8) (i : Int) : 0 ≤ getN l i 8 ∧ getN l i 8 < 18446744073709551616 := by
  have hr := getN_range l i 8
  exact ⟨hr.1, by simpa using hr.2⟩
theorem one_ok (l : List UInt8) : (oneS l).2.2.2.2.2.2.2.1.size ≤ 65535 ∧ okR (rel (oneS l)) ∧ (rel (oneS l)).f3.size ≤ 65535 := by
  have hz : ∀ e : Int, okR (rel (0, 0, 0, 0, 0, NIL, false, NIL, e)) := fun e => by
    have h : rel (0, 0, 0, 0, 0, NIL, false, NIL, e) = ⟨0, ⟨0, 0⟩, ⟨0, 0⟩, NIL, false⟩ := rfl
    rw [h]
    exact ⟨⟨by decide, by decide⟩, ⟨⟨by decide, by decide⟩, ⟨by decide, by decide⟩⟩, ⟨⟨by decide, by decide⟩, ⟨by decide, by decide⟩⟩, fun _ => rfl⟩
  unfold oneS
  split
  · exact ⟨Nat.zero_le _, hz 3, Nat.zero_le _⟩
  · split
    · have ho := prs_ok (l.drop 34) ((l.drop 34).length + 1) [] 0 (by decide) (fun x hx => by cases hx)
      cases hp : pick (opts l).1 0 NIL NIL false with
      | none => exact ⟨Nat.zero_le _, hz 171, Nat.zero_le _⟩
      | some r =>
        obtain ⟨s, h, b⟩ := r
        have hq := pick_small (opts l).1 0 NIL NIL false (s, h, b) ho.1 (by decide) (by decide) (fun _ => rfl) hp
        have hc := (l.getD 1 0).toNat_lt
        exact ⟨hq.1, ⟨⟨by show (0 : Int) ≤ ((l.getD 1 0).toNat : Int); omega, by show ((l.getD 1 0).toNat : Int) ≤ 255; omega⟩, ⟨getN8 _ _, getN8 _ _⟩, ⟨getN8 _ _, getN8 _ _⟩, hq.2.2⟩, hq.2.1⟩
    · exact ⟨Nat.zero_le _, hz _, Nat.zero_le _⟩
/-- Relays read one within the other. -/
def hit (kind : Int) (l : List UInt8) : Bool := (kind == 12 || kind == 13) && (match l with | [] => false | c :: _ => (c.toNat : Int) == kind)
def unw (kind : Int) : Nat → List UInt8 → List S39 → List S39 × ByteArray × Int
  | 0, l, acc => (acc, B l, 0)
  | d + 1, l, acc => if hit kind l = true then (if 32 ≤ acc.length then ([], NIL, 170) else if (oneS l).2.2.2.2.2.2.2.2 = 0 then unw kind d (L (oneS l).2.2.2.2.2.2.2.1) (acc ++ [rel (oneS l)]) else ([], NIL, (oneS l).2.2.2.2.2.2.2.2)) else (acc, B l, 0)
theorem isKind_eq (kind : Int) : relay_isKind.f kind = some (kind == 12 || kind == 13) := by
  unfold relay_isKind.f
  by_cases h : kind = 12
  · rw [if_pos h]; simp [h]
  · rw [if_neg h]; simp [h]
theorem nil_iff (s : ByteArray) : s.toList = ([] : List UInt8) ↔ L s = [] := by rw [toList_L]
theorem unw_go (kind : Int) (d : Nat) : ∀ (k : Nat) (s : ByteArray) (acc : List S39), s.size ≤ 65536 → 33 ≤ acc.length + d → acc.length ≤ 32 → 140100 + 2 * d ≤ k →
    relay_Unwrap.l0 k kind s acc = some (unw kind d (L s) acc) := by
  induction d with
  | zero => intro k s acc hs h1 h2; omega
  | succ d ih =>
    intro k s acc hs h1 h2 hk
    obtain ⟨k, rfl⟩ : ∃ m, k = m + 2 := ⟨k - 2, by omega⟩
    have hj : ∀ b, relay_Unwrap.j1 (k + 1) kind s acc b = some (if b = true then (if 32 ≤ acc.length then ([], NIL, 170) else if (oneS (L s)).2.2.2.2.2.2.2.2 = 0 then unw kind d (L (oneS (L s)).2.2.2.2.2.2.2.1) (acc ++ [rel (oneS (L s))]) else ([], NIL, (oneS (L s)).2.2.2.2.2.2.2.2)) else (acc, B (L s), 0)) := by
      intro b
      rw [relay_Unwrap.j1]
      by_cases hb : b = true
      · rw [if_pos hb, if_pos hb]
        by_cases h32 : 32 ≤ acc.length
        · rw [if_pos (by omega), if_pos h32]
        · rw [if_neg (by omega), if_neg h32, one_eq s hs k (by omega), Option.bind_some]
          by_cases he : (oneS (L s)).2.2.2.2.2.2.2.2 = 0
          · rw [if_pos he, if_pos he, if_pos (by omega)]
            exact ih k _ _ (by have := (one_ok (L s)).1; omega) (by rw [List.length_append, List.length_singleton]; omega) (by rw [List.length_append, List.length_singleton]; omega) (by omega)
          · rw [if_neg he, if_neg he]
      · rw [if_neg hb, if_neg hb, B_L]
    rw [relay_Unwrap.l0, isKind_eq, Option.bind_some, unw]
    have hsz : (L s).length = s.size := by rw [size_L]
    cases hkd : (kind == 12 || kind == 13) with
    | false =>
      have hh : hit kind (L s) = false := by unfold hit; rw [hkd]; rfl
      rw [if_neg (by decide), hj, hh]
    | true =>
      rw [if_pos rfl]
      cases hl : L s with
      | nil =>
        rw [if_pos ((nil_iff s).2 hl), hj, hl]
        have hh : hit kind [] = false := by unfold hit; rw [Bool.and_false]
        rw [hh]
      | cons c cs =>
        have hn : ¬ s.toList = [] := fun e => by rw [(nil_iff s).1 e] at hl; cases hl
        have hb0 : bt s 0 = (c.toNat : Int) := by
          have := bt_getD s 0 (by rw [← hsz, hl]; exact Nat.succ_pos _)
          rw [hl] at this
          exact this
        have hh : hit kind (c :: cs) = ((c.toNat : Int) == kind) := by unfold hit; rw [hkd]; rfl
        rw [if_neg hn, if_pos (by rw [← hsz, hl]; simp), hj, hb0, w64 (byte_range c), hl, hh]
theorem unwrap_eq (k : Nat) (hk : 150000 ≤ k) (kind : Int) (s : ByteArray) : relay_Unwrap.f k kind s = some (if 65507 < s.size then ([], NIL, 6) else unw kind 33 (L s) []) := by
  unfold relay_Unwrap.f
  by_cases h : 65507 < s.size
  · rw [if_pos (by omega), if_pos h]
  · rw [if_neg (by omega), if_neg h]
    exact unw_go kind 33 k s [] (by omega) (by decide) (by decide) (by omega)
end Go.Proofs.Ytfpamalmkmhpgaa.Rl
