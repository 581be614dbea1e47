/- The reference's MD5 is the program's: plain. No condition. Own text. -/
import Derived.Test.YtjpcokifadaedaaDoorXD9
import Derived.Laws.BitsAllLaws
set_option linter.unusedVariables false
set_option linter.unusedSimpArgs false
namespace Go.Proofs.YtjpcokifadaedaaDoor.X
open Go Go.RowKit Go.Proofs.YtjpcokifadaedaaDoorW.PrintWords Go.Proofs.YtjpcokifadaedaaDoorW.PrintLast Go.Proofs.YtjpcokifadaedaaDoorW.PrintMore
def In32 (x : Int) : Prop := 0 ≤ x ∧ x < 4294967296
def InR (s : Md) : Prop := In32 s.a ∧ In32 s.b ∧ In32 s.c ∧ In32 s.d
theorem mod32 (x : Int) : In32 (x % 4294967296) := ⟨Int.emod_nonneg _ (by decide), Int.emod_lt_of_pos _ (by decide)⟩
theorem mux (b c d : Nat) (hb : b < 4294967296) (hc : c < 4294967296) (hd : d < 4294967296) : (b &&& c) ||| ((4294967295 ^^^ b) &&& d) = d ^^^ (b &&& (c ^^^ d)) := by
  apply Nat.eq_of_testBit_eq
  intro i
  have hM : Nat.testBit 4294967295 i = decide (i < 32) := Nat.testBit_two_pow_sub_one 32 i
  rw [Nat.testBit_or, Nat.testBit_and, Nat.testBit_and, Nat.testBit_xor, Nat.testBit_xor, Nat.testBit_and, Nat.testBit_xor, hM]
  by_cases h : i < 32
  · rw [decide_eq_true h]
    cases b.testBit i <;> cases c.testBit i <;> cases d.testBit i <;> rfl
  · have h2 : 2 ^ 32 ≤ 2 ^ i := Nat.pow_le_pow_right (n := 2) (by omega) (by omega : 32 ≤ i)
    have h2 : 4294967296 ≤ 2 ^ i := h2
    rw [Nat.testBit_lt_two_pow (Nat.lt_of_lt_of_le hb h2), Nat.testBit_lt_two_pow (Nat.lt_of_lt_of_le hc h2), Nat.testBit_lt_two_pow (Nat.lt_of_lt_of_le hd h2)]
    simp
theorem muxI (b c d : Int) (hb : In32 b) (hc : In32 c) (hd : In32 d) : Go.bits .or .u32 (Go.bits .and .u32 b c) (Go.bits .and .u32 (Go.bits .xor .u32 4294967295 b) d) = Go.bits .xor .u32 d (Go.bits .and .u32 b (Go.bits .xor .u32 c d)) := by
  obtain ⟨b, rfl⟩ := Int.eq_ofNat_of_zero_le hb.1
  obtain ⟨c, rfl⟩ := Int.eq_ofNat_of_zero_le hc.1
  obtain ⟨d, rfl⟩ := Int.eq_ofNat_of_zero_le hd.1
  have hb' : b < 4294967296 := by have := hb.2; omega
  have hc' : c < 4294967296 := by have := hc.2; omega
  have hd' : d < 4294967296 := by have := hd.2; omega
  have hn : 4294967295 ^^^ b < 4294967296 := Nat.xor_lt_two_pow (n := 32) (by decide) hb'
  have hx : c ^^^ d < 4294967296 := Nat.xor_lt_two_pow (n := 32) hc' hd'
  rw [show (4294967295 : Int) = ((4294967295 : Nat) : Int) from rfl, u32_and_nat b c hb' hc', u32_xor_nat _ b (by decide) hb', u32_and_nat _ d hn hd', u32_or_nat _ _ (Nat.lt_of_le_of_lt Nat.and_le_left hb') (Nat.lt_of_le_of_lt Nat.and_le_left hn), u32_xor_nat c d hc' hd', u32_and_nat b _ hb' hx, u32_xor_nat d _ hd' (Nat.lt_of_le_of_lt Nat.and_le_left hb'), mux b c d hb' hc' hd']
theorem mix_eq (i : Nat) (b c d : Int) (hb : In32 b) (hc : In32 c) (hd : In32 d) : rstepF i b c d = mixF i b c d := by
  unfold rstepF mixF
  rw [muxI b c d hb hc hd, muxI d b c hd hb hc]
theorem step_eq (ws : List Int) (i : Nat) (s : Md) (h : InR s) : rstepV ws i s = stepF ws i s := by
  unfold rstepV stepF
  rw [mix_eq i s.b s.c s.d h.2.1 h.2.2.1 h.2.2.2]
theorem step_in (ws : List Int) (i : Nat) (s : Md) (h : InR s) : InR (stepF ws i s) := ⟨h.2.2.2, mod32 _, h.2.1, h.2.2.1⟩
theorem stepN_eq (ws : List Int) (s : Md) (h : InR s) : ∀ n, rstepN ws n s = stepN ws n s ∧ InR (stepN ws n s)
  | 0 => ⟨rfl, h⟩
  | n + 1 => by
    obtain ⟨h1, h2⟩ := stepN_eq ws s h n
    refine ⟨?_, step_in ws n _ h2⟩
    show rstepV ws n (rstepN ws n s) = stepF ws n (stepN ws n s)
    rw [h1, step_eq ws n _ h2]
theorem word_or (m : Nat) (hm : m < 4) (x c : Int) (hx : 0 ≤ x ∧ x < 2 ^ (8 * m)) (hc : 0 ≤ c ∧ c < 256) :
    Go.bits .or .u32 x (c * 2 ^ (8 * m) % 4294967296) = (x + c * 2 ^ (8 * m) % 4294967296) % 4294967296 ∧ 0 ≤ (x + c * 2 ^ (8 * m) % 4294967296) % 4294967296 ∧ (x + c * 2 ^ (8 * m) % 4294967296) % 4294967296 < 2 ^ (8 * (m + 1)) := by
  obtain ⟨x, rfl⟩ := Int.eq_ofNat_of_zero_le hx.1
  obtain ⟨c, rfl⟩ := Int.eq_ofNat_of_zero_le hc.1
  have hc' : c < 256 := by have := hc.2; omega
  have key : ∀ p : Nat, p = 1 ∨ p = 256 ∨ p = 65536 ∨ p = 16777216 → (hp : ∃ i, p = 2 ^ i) → x < p → Go.bits .or .u32 (x : Int) ((c : Int) * (p : Int) % 4294967296) = ((x : Int) + (c : Int) * (p : Int) % 4294967296) % 4294967296 ∧ 0 ≤ ((x : Int) + (c : Int) * (p : Int) % 4294967296) % 4294967296 ∧ ((x : Int) + (c : Int) * (p : Int) % 4294967296) % 4294967296 < 256 * (p : Int) := by
    intro p hp ⟨i, hi⟩ hxp
    have hcp : c * p < 4294967296 ∧ x + c * p < 4294967296 ∧ x + c * p < 256 * p := by
      rcases hp with rfl | rfl | rfl | rfl <;> omega
    have e : ((c : Int) * (p : Int)) % 4294967296 = ((c * p : Nat) : Int) := by
      rw [← Int.natCast_mul]
      exact Int.emod_eq_of_lt (Int.natCast_nonneg _) (by omega)
    have e2 : ((x : Int) + ((c * p : Nat) : Int)) % 4294967296 = ((x + c * p : Nat) : Int) := by
      rw [← Int.natCast_add]
      exact Int.emod_eq_of_lt (Int.natCast_nonneg _) (by omega)
    rw [e, e2, u32_or_nat x (c * p) (by omega) hcp.1, Nat.or_comm, nat_join i (c * p) x (by rw [hi]; exact Nat.mul_mod_left _ _) (by rw [← hi]; exact hxp), Nat.add_comm (c * p) x]
    exact ⟨rfl, by omega, by omega⟩
  have e1 : ((2 ^ (8 * m) : Nat) : Int) = (2 : Int) ^ (8 * m) := by rw [Int.natCast_pow]; rfl
  have e2 : (2 : Int) ^ (8 * (m + 1)) = 256 * (2 : Int) ^ (8 * m) := by
    rw [show 8 * (m + 1) = 8 + 8 * m by omega, Int.pow_add]
    rfl
  have hx' := hx.2
  rw [← e1] at hx' ⊢
  rw [e2, ← e1]
  refine key (2 ^ (8 * m)) ?_ ⟨8 * m, rfl⟩ (by omega)
  have h4 : m = 0 ∨ m = 1 ∨ m = 2 ∨ m = 3 := by omega
  rcases h4 with rfl | rfl | rfl | rfl
  · exact .inl rfl
  · exact .inr (.inl rfl)
  · exact .inr (.inr (.inl rfl))
  · exact .inr (.inr (.inr rfl))
theorem getD_set_same (l : List Int) (i : Nat) (v : Int) (h : i < l.length) : (l.set i v).getD i 0 = v := by
  rw [List.getD_eq_getElem?_getD, List.getElem?_set_self h]
  rfl
theorem getD_set_ne (l : List Int) (i j : Nat) (v : Int) (h : i ≠ j) : (l.set i v).getD j 0 = l.getD j 0 := by
  rw [List.getD_eq_getElem?_getD, List.getElem?_set_ne h, List.getD_eq_getElem?_getD]
theorem words_eq (t part : ByteArray) (at_ : Nat) (hp : 64 ≤ part.size) (hb : ∀ i, i < 64 → (bytesOf t).getD (at_ + i) 0 = (bytesOf part).getD i 0) : ∀ n, n ≤ 64 → rwordsN t at_ n = wordsN part n ∧ ∀ q, q < 16 → n / 4 ≤ q → 0 ≤ (wordsN part n).getD q 0 ∧ (wordsN part n).getD q 0 < 2 ^ (8 * (n - 4 * q))
  | 0, _ => by
    refine ⟨rfl, fun q hq _ => ?_⟩
    have hz : (wordsN part 0).getD q 0 = 0 := by
      show (List.replicate 16 (0 : Int)).getD q 0 = 0
      rw [List.getD_eq_getElem?_getD, List.getElem?_replicate]
      split <;> rfl
    rw [hz]
    exact ⟨by omega, Int.pow_pos (by decide)⟩
  | n + 1, hn => by
    obtain ⟨h1, h2⟩ := words_eq t part at_ hp hb n (by omega)
    have hx := h2 (n / 4) (by omega) (Nat.le_refl _)
    rw [show n - 4 * (n / 4) = n % 4 by omega] at hx
    have hc := byte_at part n (by omega)
    obtain ⟨w1, w2, w3⟩ := word_or (n % 4) (Nat.mod_lt _ (by decide)) _ _ hx hc
    have hl := wordsN_len part n
    refine ⟨?_, fun q hq hnq => ?_⟩
    · show rwordS t at_ (rwordsN t at_ n) n = wordS part (wordsN part n) n
      unfold rwordS wordS
      rw [h1, hb n (by omega), w1]
    · show 0 ≤ (wordS part (wordsN part n) n).getD q 0 ∧ (wordS part (wordsN part n) n).getD q 0 < _
      unfold wordS
      by_cases e : n / 4 = q
      · subst e
        rw [getD_set_same _ _ _ (by omega), w1]
        refine ⟨w2, Int.lt_of_lt_of_le w3 ?_⟩
        rw [show n + 1 - 4 * (n / 4) = n % 4 + 1 by omega]
        exact Int.le_refl _
      · rw [getD_set_ne _ _ _ _ e]
        have h3 := h2 q hq (by omega)
        rw [show n + 1 - 4 * q = 0 by omega]
        rw [show n - 4 * q = 0 by omega] at h3
        exact h3
theorem take_eq (s : Md) (t part : ByteArray) (at_ : Nat) (hs : InR s) (hp : 64 ≤ part.size) (hb : ∀ i, i < 64 → (bytesOf t).getD (at_ + i) 0 = (bytesOf part).getD i 0) : rtakeF s t at_ = takeF s part := by
  unfold rtakeF takeF
  rw [(words_eq t part at_ hp hb 64 (Nat.le_refl _)).1, (stepN_eq _ s hs 64).1]
theorem take_in (s : Md) (part : ByteArray) : InR (takeF s part) := ⟨mod32 _, mod32 _, mod32 _, mod32 _⟩
theorem bytes_from (t : ByteArray) (a i : Nat) (h : a + i < t.size) : (bytesOf (t.extract a t.size)).getD i 0 = (bytesOf t).getD (a + i) 0 := by
  have e : bytesOf (t.extract a t.size) = (bytesOf t).drop a := by
    unfold bytesOf
    rw [ByteArray.data_extract, Array.toList_extract, List.extract_eq_take_drop, ← List.map_drop]
    congr 1
    exact List.take_of_length_le (by rw [List.length_drop]; exact Nat.le_of_eq (by rw [data_length]))
  rw [e, List.getD_eq_getElem?_getD, List.getElem?_drop, ← List.getD_eq_getElem?_getD]
theorem blocks_eq (t : ByteArray) : ∀ n j, 64 * (j + n) ≤ t.size → InR (rmd5N t j) → md5N n (t.extract (64 * j) t.size) (rmd5N t j) = rmd5N t (j + n) ∧ InR (rmd5N t (j + n))
  | 0, j, _, hr => ⟨rfl, hr⟩
  | n + 1, j, h, hr => by
    have hsz : (t.extract (64 * j) t.size).size = t.size - 64 * j := by rw [ByteArray.size_extract]; omega
    have e1 : takeF (rmd5N t j) (t.extract (64 * j) t.size) = rmd5N t (j + 1) := by
      show _ = rtakeF (rmd5N t j) t (64 * j)
      exact (take_eq _ t _ _ hr (by omega) (fun i hi => (bytes_from t (64 * j) i (by omega)).symm)).symm
    have e2 : (t.extract (64 * j) t.size).extract 64 (t.extract (64 * j) t.size).size = t.extract (64 * (j + 1)) t.size := by
      rw [hsz, ByteArray.extract_extract]
      congr 1 <;> omega
    have hr2 : InR (rmd5N t (j + 1)) := e1 ▸ take_in _ _
    have ih := blocks_eq t n (j + 1) (by omega) hr2
    rw [show j + (n + 1) = j + 1 + n by omega]
    refine ⟨?_, ih.2⟩
    show md5N n ((t.extract (64 * j) t.size).extract 64 (t.extract (64 * j) t.size).size) (takeF (rmd5N t j) (t.extract (64 * j) t.size)) = _
    rw [e1, e2]
    exact ih.1
theorem push_app (s : ByteArray) (v : Int) : XAp.pushB s v = s ++ ⟨#[UInt8.ofNat v.toNat]⟩ := by
  apply ByteArray.ext
  rw [ByteArray.data_append]
  rfl
theorem zero_push (n : Nat) : zeroS n ++ ⟨#[0]⟩ = zeroS (n + 1) := by
  apply ByteArray.ext
  rw [ByteArray.data_append]
  apply Array.ext'
  rw [Array.toList_append]
  show Lib.repeatL [0] n ++ [0] = [0] ++ Lib.repeatL [0] n
  induction n with
  | zero => rfl
  | succ n ih =>
    show [0] ++ Lib.repeatL [0] n ++ [0] = _
    rw [List.append_assoc, ih]
    rfl
theorem rpad_eq (s : ByteArray) : ∀ n, rpadN s n = (s ++ ⟨#[128]⟩) ++ zeroS n
  | 0 => by
    show XAp.pushB s 128 = _
    rw [push_app]
    apply ByteArray.ext
    rw [ByteArray.data_append, ByteArray.data_append, ByteArray.data_append]
    show _ = _ ++ #[]
    rw [Array.append_empty]
    rfl
  | n + 1 => by
    show XAp.pushB (rpadN s n) 0 = _
    rw [push_app, rpad_eq s n, ByteArray.append_assoc]
    congr 1
    exact zero_push n
theorem le_push (x : Int) (n : Nat) : leS x n ++ ⟨#[UInt8.ofNat (x / 2 ^ (8 * n) % 256).toNat]⟩ = leS x (n + 1) := by
  apply ByteArray.ext
  rw [ByteArray.data_append]
  apply Array.ext'
  rw [Array.toList_append]
  show (leL x n).map _ ++ _ = (leL x (n + 1)).map _
  unfold leL
  rw [List.range_succ, List.map_append, List.map_append]
  rfl
theorem rlen_eq (t : ByteArray) (x : Int) : ∀ n, rlenN t x n = t ++ leS x n
  | 0 => by
    show t = t ++ leS x 0
    apply ByteArray.ext
    rw [ByteArray.data_append]
    show _ = _ ++ #[]
    rw [Array.append_empty]
  | n + 1 => by
    show XAp.pushB (rlenN t x n) _ = _
    rw [push_app, rlen_eq t x n, ByteArray.append_assoc, le_push]
theorem text_eq (s : ByteArray) : tenancyref05_text.f s = md5T s := by
  unfold tenancyref05_text.f md5T
  rw [rlen_eq, rpad_eq]
theorem nil_app (s : ByteArray) : (⟨#[]⟩ : ByteArray) ++ s = s := by
  apply ByteArray.ext
  rw [ByteArray.data_append]
  exact Array.empty_append
theorem mod64 (x : Int) (h : In32 x) : x % 18446744073709551616 = x := Int.emod_eq_of_lt h.1 (Int.lt_trans h.2 (by decide))
theorem out_eq (h : Md) (hr : InR h) : mdS h = rout h 4 := by
  unfold mdS
  rw [mod64 _ hr.1, mod64 _ hr.2.1, mod64 _ hr.2.2.1, mod64 _ hr.2.2.2]
  show _ = rlenN (rlenN (rlenN (rlenN ⟨#[]⟩ h.a 4) h.b 4) h.c 4) h.d 4
  rw [rlen_eq, rlen_eq, rlen_eq, rlen_eq, nil_app]
theorem md5_eq (s : ByteArray) : digest_MD5.f s = tenancyref05_MD5.f s := by
  unfold digest_MD5.f tenancyref05_MD5.f
  rw [text_eq]
  have hsz := (md5T_size s).2
  have hI : InR (rmd5N (md5T s) 0) := by
    have h : ∀ x : Int, (0 ≤ x ∧ x < 4294967296) → In32 x := fun _ h => h
    exact ⟨h 1732584193 (by decide), h 4023233417 (by decide), h 2562383102 (by decide), h 271733878 (by decide)⟩
  generalize md5T s = t at hsz hI ⊢
  have h := blocks_eq t (t.size / 64) 0 (by omega) hI
  have e0 : t.extract (64 * 0) t.size = t := by
    rw [Nat.mul_zero]
    exact ByteArray.extract_zero_size
  rw [e0, Nat.zero_add] at h
  have h1 : md5N (t.size / 64) t mdI = rmd5N t (t.size / 64) := h.1
  rw [h1, out_eq _ h.2]
end Go.Proofs.YtjpcokifadaedaaDoor.X
