/- The plain statement of Opt4Pieces: data cut anywhere is put together: no condition. -/
import Derived.Test.YtphmbndnejhbfaaX4
import Derived.Test.YtphmbndnejhbfaaXOpt4
set_option linter.unusedVariables false
namespace Go.Proofs.Ytphmbndnejhbfaa.Pure
open Go.RowKit Go.Proofs.YtphmbndnejhbfaaW.PrintWords Go.Proofs.YtphmbndnejhbfaaW.PrintLast Go.Proofs.YtphmbndnejhbfaaW.PrintMore Go.Proofs.Ytphmbndnejhbfaa.X Go.Proofs.Ytphmbndnejhbfaa.Oct Go.Proofs.Ytphmbndnejhbfaa.Opt

theorem wf_u8p {n : Int} (h : (Lit.int .u8 n).wf = true) : 0 ≤ n ∧ n < 256 := by
  have h : 0 ≤ n ∧ n ≤ 255 := by simpa [Lit.wf, IntKind.min, IntKind.max, IntKind.bits, IntKind.signed] using h
  omega
/-- What has been put together so far. -/
def curP (c : UInt8) (d : List UInt8) (i : Nat) : List S42 := if i = 0 then [] else [⟨c.toNat, B d⟩]
theorem parse_snoc : ∀ (ar : List ByteArray) (l : List S42) (s : ByteArray), (parseL l ar).2 = 0 → parseL l (ar ++ [s]) = parseL (parseL l ar).1 [s]
  | [], l, s, _ => rfl
  | a :: r, l, s, h => by
    rw [List.cons_append, parseL]
    rw [parseL] at h
    by_cases h0 : (areaL a.size l (L a)).2 = 0
    · rw [if_pos h0] at h ⊢
      have e : parseL l (a :: r) = parseL (areaL a.size l (L a)).1 r := by rw [parseL, if_pos h0]
      rw [parse_snoc r _ s h, e]
    · rw [if_neg h0] at h; exact absurd h h0
theorem piece_step (c : UInt8) (h0 : c ≠ 0) (h1 : c ≠ 255) (d e r : List UInt8) (i : Nat) (hd : i = 0 → d = []) (he : e.length ≤ 255) (hs : d.length + e.length ≤ 4096) : areaA (curP c d i) (c :: UInt8.ofNat e.length :: (e ++ r)) = areaA (curP c (d ++ e) (i + 1)) r := by
  have hm : (UInt8.ofNat e.length).toNat = e.length := by rw [UInt8.toNat_ofNat']; omega
  have e2 : curP c (d ++ e) (i + 1) = [⟨c.toNat, B (d ++ e)⟩] := by unfold curP; rw [if_neg (by omega)]
  rw [e2]
  by_cases hi : i = 0
  · have hc : curP c d i = [] := by unfold curP; rw [if_pos hi]
    have ea := add_new [] c.toNat (B e) (by simp) (by simp)
    rw [hc, areaA_opt [] c _ e r h0 h1 hm (by rw [ea]), ea, hd hi]; rfl
  · have hc : curP c d i = [⟨c.toNat, B d⟩] := by unfold curP; rw [if_neg hi]
    have ea := add_old [] c.toNat (B d) (B e) (by simp) (by rw [size_B, size_B]; exact hs)
    rw [List.nil_append, List.nil_append, B_append] at ea
    rw [hc, areaA_opt _ c _ e r h0 h1 hm (by rw [ea]), ea]
/-- The state of the loop. -/
structure St (c : UInt8) (x1 : ByteArray) (p i : Nat) (x7 : List Int) (x8 : List ByteArray) : Prop where mk ::
  (hp : p ≤ x1.size) (hi : i ≤ 64 + p) (h0 : i = 0 → p = 0)
  (w : ∃ w : List UInt8, x7 = w.map (fun x => (x.toNat : Int)) ∧ w.length = p + 2 * i ∧ ∀ r, areaA [] (w ++ r) = areaA (curP c ((L x1).take p) i) r)
  (hr : parseL [] x8 = (curP c ((L x1).take p) i, 0)) (hl : x8.length = i) (he : x1.size = 0 → i = 0) (hz : ∀ y ∈ x8, y.size ≤ 300)
def segB (x1 : ByteArray) (p n : Nat) : List UInt8 := ((L x1).drop p).take n
theorem st_step {c : UInt8} {x1 : ByteArray} {p i n : Nat} {x7 : List Int} {x8 : List ByteArray} (h : St c x1 p i x7 x8) (c0 : c ≠ 0) (c1 : c ≠ 255) (hs : x1.size ≤ 4096) (hn : n ≤ 255) (hpn : p + n ≤ x1.size) (hin : 64 ≤ i → 1 ≤ n) (hlt : p < x1.size) :
    St c x1 (p + n) (i + 1) (x7 ++ bytesOf (B (c :: UInt8.ofNat n :: segB x1 p n))) (x8 ++ [B (c :: UInt8.ofNat n :: segB x1 p n)]) := by
  obtain ⟨hp, hi, h0, ⟨w, w1, w2, w3⟩, hr, hl, hee, hz⟩ := h
  have hlen : (segB x1 p n).length = n := by unfold segB; rw [List.length_take, List.length_drop, ← size_L]; omega
  have htk : (L x1).take p ++ segB x1 p n = (L x1).take (p + n) := by unfold segB; rw [List.take_add]
  have hst : ∀ r, areaA (curP c ((L x1).take p) i) (c :: UInt8.ofNat n :: (segB x1 p n ++ r)) = areaA (curP c ((L x1).take (p + n)) (i + 1)) r := fun r => by
    have := piece_step c c0 c1 ((L x1).take p) (segB x1 p n) r i (fun hi0 => by rw [h0 hi0]; rfl) (by omega) (by rw [List.length_take, hlen, ← size_L]; omega)
    rw [hlen, htk] at this
    exact this
  refine ⟨hpn, by omega, by omega, ⟨w ++ (c :: UInt8.ofNat n :: segB x1 p n), ?_, ?_, fun r => ?_⟩, ?_, by rw [List.length_append, hl]; rfl, by omega, fun y hy => ?_⟩
  · rw [w1, bytesOf_L, L_B, List.map_append]
  · rw [List.length_append, w2, List.length_cons, List.length_cons, hlen]; omega
  · rw [List.append_assoc, w3]; exact hst r
  · rw [parse_snoc x8 [] _ (by rw [hr]), hr, parseL, L_B, area_fuel _ _ _ _ (by rw [size_B]; exact Nat.le_refl _) (Nat.le_refl _)]
    have := hst []
    rw [List.append_nil] at this
    have e : areaL (c :: UInt8.ofNat n :: segB x1 p n).length (curP c ((L x1).take p) i) (c :: UInt8.ofNat n :: segB x1 p n) = (curP c ((L x1).take (p + n)) (i + 1), 0) := this
    rw [e, if_pos rfl, parseL]
  · rcases List.mem_append.1 hy with hy | hy
    · exact hz y hy
    · obtain rfl := List.mem_singleton.1 hy
      rw [size_B, List.length_cons, List.length_cons, hlen]; omega
theorem y_bytes (c : UInt8) (n : Nat) (hn : n ≤ 255) (x1 : ByteArray) (p : Nat) : strOfNums [(c.toNat : Int), (n : Int)] ++ x1.extract p (p + n) = B (c :: UInt8.ofNat n :: segB x1 p n) := by
  have hc := c.toNat_lt
  have e : strOfNums [(c.toNat : Int), (n : Int)] = B [c, UInt8.ofNat n] := by
    rw [strOfNums_B _ (by intro x hx; simp at hx; omega)]
    have : b8 (n : Int) = UInt8.ofNat n := by unfold b8; rw [show ((n : Int) % 256).toNat = n by omega]
    simp [b8_byte, this]
  rw [e]
  apply ext_L
  rw [L_append, L_B, L_B, L_extract, show p + n - p = n by omega]
  rfl
theorem core (k : Nat) (c : UInt8) (x1 : ByteArray) (x2 x7 : List Int) (x8 : List ByteArray) (p i n : Nat) (N N' : Int) (hN : N = (n : Int)) (hN' : N' = (n : Int)) (h : St c x1 p i x7 x8) (hs : x1.size ≤ 4096) (hn : n ≤ 255) (hpn : p + n ≤ x1.size)
    (H : tenancylaw13_Opt4Pieces.l0 k (c.toNat : Int) x1 x2 (x7 ++ bytesOf (B (c :: UInt8.ofNat n :: segB x1 p n))) (x8 ++ [B (c :: UInt8.ofNat n :: segB x1 p n)]) ((p + n : Nat) : Int) ((i + 1 : Nat) : Int) = some true) :
    ((some (([(c.toNat : Int), N] : List Int) : List Int)).bind fun y => (if 0 ≤ (p : Int) then (if (p : Int) ≤ (wrap64 ((p : Int) + N')) then (if (wrap64 ((p : Int) + N')) ≤ (x1.size : Int) then (if (strOfNums y).size + (x1.extract ((p : Int) : Int).toNat ((wrap64 ((p : Int) + N')) : Int).toNat).size ≤ 9223372036854775807 then (if x7.length + ((strOfNums y) ++ (x1.extract ((p : Int) : Int).toNat ((wrap64 ((p : Int) + N')) : Int).toNat)).size < 140737488355328 then (if x8.length < 8796093022208 then (tenancylaw13_Opt4Pieces.l0 k (c.toNat : Int) x1 x2 (x7 ++ bytesOf ((strOfNums y) ++ (x1.extract ((p : Int) : Int).toNat ((wrap64 ((p : Int) + N')) : Int).toNat))) (x8 ++ [(strOfNums y) ++ (x1.extract ((p : Int) : Int).toNat ((wrap64 ((p : Int) + N')) : Int).toNat)]) (wrap64 ((p : Int) + N')) (wrap64 ((i : Int) + 1))) else (none)) else (none)) else (none)) else (none)) else (none)) else (none))) = some true := by
  subst hN; subst hN'
  obtain ⟨hp, hi, h0, ⟨w, w1, w2, w3⟩, hr, hl, hee, hz⟩ := h
  have hw : wrap64 ((p : Int) + (n : Int)) = ((p + n : Nat) : Int) := (w64 (n := (p : Int) + (n : Int)) (by omega)).trans (by omega)
  have hw2 : wrap64 ((i : Int) + 1) = ((i + 1 : Nat) : Int) := (w64 (n := (i : Int) + 1) (by omega)).trans (by omega)
  have hy := y_bytes c n hn x1 p
  have hlen : (segB x1 p n).length = n := by unfold segB; rw [List.length_take, List.length_drop, ← size_L]; omega
  have hx7 : x7.length = p + 2 * i := by rw [w1, List.length_map, w2]
  have hsz : (strOfNums [(c.toNat : Int), (n : Int)]).size = 2 := rfl
  have hez : (x1.extract p (p + n)).size = n := by rw [ByteArray.size_extract]; omega
  rw [hw, hw2, Option.bind_some, Int.toNat_natCast, Int.toNat_natCast, hy, if_pos (by omega), if_pos (by omega), if_pos (by omega), if_pos (by rw [hsz, hez]; omega), if_pos (by rw [size_B, List.length_cons, List.length_cons, hlen]; omega), if_pos (by omega)]
  exact H
theorem cut_n (v : Int) : ∃ n : Nat, n ≤ 255 ∧ wrap64 (Int.tmod (IntKind.u64.wrap v) 256) = (n : Int) := by
  have h0 : 0 ≤ IntKind.u64.wrap v := by simp [IntKind.wrap, IntKind.bits, IntKind.signed]; omega
  refine ⟨(Int.tmod (IntKind.u64.wrap v) 256).toNat, ?_, ?_⟩
  · rw [Int.tmod_eq_emod_of_nonneg h0]; omega
  · rw [Int.tmod_eq_emod_of_nonneg h0, w64 (by omega)]; omega
theorem loop (c : UInt8) (c0 : c ≠ 0) (c1 : c ≠ 255) (x1 : ByteArray) (hs : x1.size ≤ 4096) (x2 : List Int) : ∀ (m k p i : Nat) (x7 : List Int) (x8 : List ByteArray), St c x1 p i x7 x8 → (64 - i) + (x1.size - p) ≤ m → 3 * m + 80000 ≤ k → tenancylaw13_Opt4Pieces.l0 k (c.toNat : Int) x1 x2 x7 x8 (p : Int) (i : Int) = some true := by
  intro m
  induction m using Nat.strongRecOn with
  | ind m ih =>
    intro k p i x7 x8 h hm hk
    obtain ⟨k, rfl⟩ : ∃ q, k = q + 3 := ⟨k - 3, by omega⟩
    rw [tenancylaw13_Opt4Pieces.l0]
    by_cases hlt : p < x1.size
    · rw [if_pos (by omega)]
      have hws : wrap64 ((x1.size : Int) - (p : Int)) = ((x1.size - p : Nat) : Int) := (w64 (n := (x1.size : Int) - p) (by omega)).trans (by omega)
      -- the round, its cut told
      have round : ∀ n : Nat, n ≤ 255 → tenancylaw13_Opt4Pieces.j3 (k + 2) (c.toNat : Int) x1 x2 x7 x8 (p : Int) (i : Int) (n : Int) = some true := by
        intro n hn
        have next : ∀ n : Nat, n ≤ 255 → p + n ≤ x1.size → (64 ≤ i → 1 ≤ n) → tenancylaw13_Opt4Pieces.l0 k (c.toNat : Int) x1 x2 (x7 ++ bytesOf (B (c :: UInt8.ofNat n :: segB x1 p n))) (x8 ++ [B (c :: UInt8.ofNat n :: segB x1 p n)]) ((p + n : Nat) : Int) ((i + 1 : Nat) : Int) = some true := fun n hn hpn hin =>
          ih (m - 1) (by omega) k (p + n) (i + 1) _ _ (st_step h c0 c1 hs hn hpn hin hlt) (by omega) (by omega)
        have last : x1.size - p ≤ 255 → tenancylaw13_Opt4Pieces.l0 k (c.toNat : Int) x1 x2 (x7 ++ bytesOf (B (c :: UInt8.ofNat (x1.size - p) :: segB x1 p (x1.size - p)))) (x8 ++ [B (c :: UInt8.ofNat (x1.size - p) :: segB x1 p (x1.size - p))]) ((p + (x1.size - p) : Nat) : Int) ((i + 1 : Nat) : Int) = some true := fun h255 => next _ h255 (by omega) (by omega)
        have body : ∀ b : Bool, (b = true ↔ 64 ≤ i ∧ n = 0) → tenancylaw13_Opt4Pieces.j4 (k + 1) (c.toNat : Int) x1 x2 x7 x8 (p : Int) (i : Int) (n : Int) b = some true := by
          intro b hb
          rw [tenancylaw13_Opt4Pieces.j4, hws]
          by_cases hbt : b = true
          · rw [if_pos hbt, if_neg (by omega)]
            exact core k c x1 x2 x7 x8 p i 1 1 1 rfl rfl h hs (by omega) (by omega) (next 1 (by omega) (by omega) (by omega))
          · rw [if_neg hbt]
            have hin : 64 ≤ i → 1 ≤ n := fun h64 => by
              rcases Nat.eq_zero_or_pos n with h0 | h0
              · exact absurd (hb.2 ⟨h64, h0⟩) hbt
              · exact h0
            by_cases hbig : (n : Int) > ((x1.size - p : Nat) : Int)
            · rw [if_pos hbig]
              exact core k c x1 x2 x7 x8 p i (x1.size - p) _ _ (by omega) rfl h hs (by omega) (by omega) (last (by omega))
            · rw [if_neg hbig]
              exact core k c x1 x2 x7 x8 p i n _ _ (by omega) rfl h hs hn (by omega) (next n hn (by omega) hin)
        rw [tenancylaw13_Opt4Pieces.j3]
        by_cases h64 : (i : Int) ≥ 64
        · rw [if_pos h64]; exact body _ (by rw [beq_iff_eq]; omega)
        · rw [if_neg h64]; exact body _ (by simp; omega)
      by_cases hx2 : (i : Int) < (x2.length : Int)
      · obtain ⟨n, hn, e⟩ := cut_n (rd x2 (i : Int))
        rw [if_pos hx2, if_pos (by omega), e]; exact round n hn
      · rw [if_neg hx2]; exact round 255 (by omega)
    · rw [if_neg (by omega)]
      obtain ⟨hp, hi, h0, ⟨w, w1, w2, w3⟩, hr, hl, hee, hz⟩ := h
      obtain rfl : p = x1.size := by omega
      have hB : strOfNums x7 = B w := by
        rw [w1, strOfNums_B _ (fun x hx => by obtain ⟨y, _, rfl⟩ := List.mem_map.1 hx; have := y.toNat_lt; omega), List.map_map]
        exact congrArg B ((List.map_congr_left (fun x _ => b8_byte x)).trans (List.map_id w))
      have hcur : curP c ((L x1).take x1.size) i = curP c (L x1) i := by rw [List.take_of_length_le (by rw [← size_L]; exact Nat.le_refl _)]
      have hp1 : parseL [] [B w] = (curP c (L x1) i, 0) := by
        have := w3 []
        rw [List.append_nil, hcur] at this
        have e : areaL w.length [] w = (curP c (L x1) i, 0) := this
        rw [parseL, L_B, size_B, e, if_pos rfl, parseL]
      have hcl : (curP c (L x1) i).length ≤ 1 := by unfold curP; split <;> simp
      rw [hB, parse_eq (M := 20000) (by decide) [B w] (by simp) (by intro y hy; obtain rfl := List.mem_singleton.1 hy; rw [size_B]; omega) (by simp; omega), Option.bind_some, parse_eq (M := 300) (by decide) x8 (by omega) hz (by omega), Option.bind_some, hp1, hr, hcur, if_pos rfl, if_pos rfl, same_refl (curP c (L x1) i) (by omega) (by omega), Option.bind_some, tenancylaw13_Opt4Pieces.j5, if_neg (by decide)]
      by_cases hz0 : x1.size = 0
      · have hL : L x1 = [] := List.eq_nil_of_length_eq_zero (by rw [← size_L]; exact hz0)
        rw [if_pos (by rw [toList_L]; exact hL), hee hz0]; rfl
      · have hi0 : i ≠ 0 := fun hi0 => hz0 (h0 hi0)
        have hc2 : curP c (L x1) i = [⟨(c.toNat : Int), x1⟩] := by unfold curP; rw [if_neg hi0, B_L]
        rw [if_neg (by rw [toList_L]; intro hL; exact hz0 (by rw [size_L, hL]; rfl)), hc2, same_refl _ (by simp) (by simp; omega)]; rfl
theorem Opt4Pieces : tenancylaw13_Opt4Pieces.Pure := by
  intro a0 a1 l2 ha0 _ _
  have hw := wf_u8p ha0
  obtain ⟨c, rfl⟩ : ∃ c : UInt8, a0 = (c.toNat : Int) := ⟨UInt8.ofNat a0.toNat, by rw [UInt8.toNat_ofNat']; omega⟩
  refine ⟨200000, ?_⟩
  unfold tenancylaw13_Opt4Pieces.f
  rw [awake_true (by omega), Option.bind_some, if_pos rfl, tenancylaw13_Opt4Pieces.j0]
  by_cases hbig : (a1.size : Int) > 4096
  · rw [if_pos (by simpa using hbig), awake_true (by omega)]; rfl
  rw [if_neg (by simpa using hbig)]
  by_cases h0 : (c.toNat : Int) = 0
  · rw [if_pos h0, tenancylaw13_Opt4Pieces.j1, if_pos rfl]
  rw [if_neg h0, tenancylaw13_Opt4Pieces.j1]
  by_cases h1 : (c.toNat : Int) = 255
  · rw [if_pos (by rw [beq_iff_eq]; exact h1)]
  rw [if_neg (by rw [beq_iff_eq]; exact h1)]
  have c0 : c ≠ 0 := fun h => h0 (by rw [h]; rfl)
  have c1 : c ≠ 255 := fun h => h1 (by rw [h]; rfl)
  exact loop c c0 c1 a1 (by omega) l2 (64 + a1.size) _ 0 0 [] [] ⟨by omega, by omega, fun _ => rfl, ⟨[], rfl, rfl, fun r => rfl⟩, rfl, rfl, fun _ => rfl, by simp⟩ (by omega) (by omega)
end Go.Proofs.Ytphmbndnejhbfaa.Pure
