import Derived.RangeFuncNested
import Derived.RangeFuncBound
import Derived.RangeFuncCalls
import Derived.RangeFuncLeaves
import Derived.Shelf.Abstract
import Derived.Shelf.RegionOpen
import Derived.WalkKit
import Derived.OwnWalkIn
import Derived.TacticsInMore
import Derived.LoopNIn
import Derived.LoopIn
import Derived.Lib.AppendZerosOnto
import Derived.Shelf.Spec.SlicesInsert
import Derived.Deep.RegionLaw
import Derived.WalkLawsBesides
import Derived.Recover
import Derived.Defers
import Derived.Test.YtjpcokifadaedaaDoorX0
import Derived.Test.YtjpcokifadaedaaDoorXOrow
import Derived.Outline
import Derived.Lib.Hide
import Derived.Laws.IdiomCopy
import Derived.Lib.SliceRun
import Derived.WalkSpells
import Derived.Test.YtjpcokifadaedaaDoorX1
import Derived.Test.YtjpcokifadaedaaDoorXSh
import Derived.Test.YtjpcokifadaedaaDoorXBox
import Derived.Test.YtjpcokifadaedaaDoorXByR
import Derived.Test.YtjpcokifadaedaaDoorXReg
import Derived.Test.YtjpcokifadaedaaDoorXIn
namespace Go.Proofs.YtjpcokifadaedaaDoor.X
open Go.RowKit Go.Proofs.YtjpcokifadaedaaDoorW.PrintWords Go.Proofs.YtjpcokifadaedaaDoorW.PrintLast Go.Proofs.YtjpcokifadaedaaDoorW.PrintMore
set_option linter.unusedVariables false
set_option linter.unusedSimpArgs false
/-! ### digest: operators on one number: by hand -/
theorem un_neg (x : Int) : Op.unary .neg (.int .u32 x) = Op.intArith .sub .u32 0 x := rfl
theorem un_xor (x : Int) : Op.unary .xor (.int .u32 x) = pure (.int .u32 (Go.bits .xor .u32 4294967295 x)) := rfl
attribute [local go_sem] un_neg un_xor
/-! ### digest_CRC: function 9: by hand -/
def crcS (r : Int) : Int := Go.bits .xor .u32 (r / 2) (Go.bits .and .u32 3988292384 ((-(Go.bits .and .u32 r 1)) % 4294967296))
def crcN : Nat → Int → Int
  | 0, r => r
  | n + 1, r => crcN n (crcS r)
def crcL : List Int → Int → Int
  | [], r => r
  | c :: l, r => crcL l (crcN 8 (Go.bits .xor .u32 r c))
def digest_CRC.f (s : ByteArray) : Option Int := if s.size ≤ 140737488355328 then some (Go.bits .xor .u32 4294967295 (crcL (bytesOf s) 4294967295)) else none
theorem bytes_at (s : ByteArray) (i : Nat) (h : i < s.size) : (bytesOf s).drop i = (bytesOf s).getD i 0 :: (bytesOf s).drop (i + 1) := by
  have hl : i < (bytesOf s).length := by rw [bytesOf_length]; exact h
  rw [List.drop_eq_getElem_cons hl, List.getD_eq_getElem?_getD, List.getElem?_eq_getElem hl]
  rfl
theorem byte_at (s : ByteArray) (i : Nat) (h : i < s.size) : 0 ≤ (bytesOf s).getD i 0 ∧ (bytesOf s).getD i 0 < 256 := by
  have hl : i < s.data.toList.length := by rw [data_length]; exact h
  have : (bytesOf s).getD i 0 = ((s.data.toList[i]).toNat : Int) := by simp [bytesOf, List.getD_eq_getElem?_getD, List.getElem?_eq_getElem hl]
  rw [this]
  have := (s.data.toList[i]).toNat_lt
  omega
set_option maxHeartbeats 4000000 in
set_option maxRecDepth 100000 in
theorem digest_CRC.calls (s : ByteArray) (r : Int) (w : World) (h : digest_CRC.f s = some r) :
    Calls Tryd.prog 9 #[.string s] w fun e w' => e = .returned (.int .u32 r) ∧ Below w.heap.size w w' := by
  unfold digest_CRC.f at h
  by_cases hz : s.size ≤ 140737488355328
  case neg => rw [if_neg hz] at h; cases h
  rw [if_pos hz] at h
  have H := Aside0.mk (Option.some.inj h)
  have HZ := Aside0.mk hz
  clear h hz
  go_enter Tryd.func9, Tryd.ntmps9
  go_upto_region 3 with ((with_reducible refine gate_dst (N := 7) rfl ?_); refine XRun.convL_ 7 rfl rfl 9 31 5 Tryd.underlying9 Tryd.underlying31 Tryd.underlying5 s rfl (by first | rfl | (go_simp; done) | (go_simp; rfl)) ?_; refine ⟨_, rfl, ?_⟩)
  have BY := Aside0.mk (XByR.ByR.new w 5 s)
  have HB := Aside0.mk (bytes_below (Below.refl _ w) (Nat.le_refl _) 5 s)
  generalize grownCap w s.size 0 5 = cc
  generalize Lib.bytesWorld w 5 s = wy at BY HB ⊢
  generalize w.heap.size = gy at BY ⊢
  go_loopg [3, 5, 9] s.size (fun gg s3 _ s9 wr => ∃ (kk : Nat) (rr : Int), Aside0 (kk ≤ s.size ∧ s.size - kk ≤ gg) ∧ s9 = .int .i64 kk ∧ s3 = .int .u32 rr ∧ Aside0 (wr = wy) ∧ Aside0 (Go.bits .xor .u32 4294967295 (crcL ((bytesOf s).drop kk) rr) = r))
  case atStart => exact ⟨0, 4294967295, ⟨Nat.zero_le _, Nat.le_refl _⟩, rfl, rfl, ⟨rfl⟩, by rw [List.drop_zero]; exact H⟩
  case round =>
    clear H
    obtain ⟨kk, rr, HK, rfl, rfl, HW, H⟩ := hrel
    have hw := HW.out
    subst hw
    by_cases hlt : kk < s.size
    · have hc := BY.out.cell kk hlt
      have hltz : (kk : Int) < (s.size : Int) := by omega
      have h := H.out
      rw [bytes_at s kk hlt, crcL] at h
      have H2 := Aside0.mk h
      have HLT := Aside0.mk hlt
      clear h H
      have hcm : (bytesOf s).getD kk 0 % 4294967296 = (bytesOf s).getD kk 0 := by have := byte_at s kk hlt; omega
      generalize (bytesOf s).getD kk 0 = c at hc hcm H2
      go_upto_region 7 with fail
      clear hcm
      go_loopg [3, 17] 8 (fun g2 t3 t17 wr2 => ∃ (j : Nat) (q : Int), Aside0 (j ≤ 8 ∧ 8 - j ≤ g2) ∧ t17 = .int .i64 j ∧ t3 = .int .u32 q ∧ Aside0 (wr2 = wr) ∧ Aside0 (crcN (8 - j) q = crcN 8 (Go.bits .xor .u32 rr c)))
      case atStart => exact ⟨0, _, ⟨Nat.zero_le _, Nat.le_refl _⟩, rfl, rfl, ⟨rfl⟩, ⟨rfl⟩⟩
      case round =>
        obtain ⟨j, q, HJ, rfl, rfl, HW2, HQ⟩ := hrel
        have hw2 := HW2.out
        subst hw2
        by_cases hj : j < 8
        · have hjz : (j : Int) < 8 := by omega
          have hq := HQ.out
          rw [show 8 - j = (8 - (j + 1)) + 1 by omega, crcN] at hq
          have HQ2 := Aside0.mk hq
          have HJL := Aside0.mk hj
          clear hq HQ
          go_wp2
          go_roundg (8 - (j + 1))
          case measure => have := HJ.out; have := HJL.out; omega
          case rel => exact ⟨j + 1, _, ⟨by have := HJL.out; omega, Nat.le_refl _⟩, by first | rfl | (rw [Go.IntWalk.wrap64_in _ (by have := HJL.out; omega)]; rfl), rfl, ⟨rfl⟩, HQ2⟩
        · obtain rfl : j = 8 := by have := HJ.out; omega
          have hq := HQ.out
          rw [Nat.sub_self, crcN] at hq
          subst hq
          have hjz : ¬ ((8 : Int) < 8) := by omega
          go_wp2
          go_roundg (s.size - (kk + 1))
          case measure => have := HK.out; have := HLT.out; omega
          case rel => exact ⟨kk + 1, _, ⟨by have := HLT.out; omega, Nat.le_refl _⟩, by rw [Go.IntWalk.wrap64_in _ (by have := HLT.out; have := HZ.out; omega)]; rfl, rfl, ⟨rfl⟩, H2⟩
    · obtain rfl : kk = s.size := by have := HK.out; omega
      have h := H.out
      rw [List.drop_of_length_le (by rw [bytesOf_length]; exact Nat.le_refl _), crcL] at h
      have hltz : ¬ (s.size : Int) < (s.size : Int) := by omega
      subst h
      clear H
      go_wp2
      go_ret
      exact ⟨rfl, HB.out⟩

/-! ### digest_mix: function 28: by hand -/
def mixF (i : Nat) (b c d : Int) : Int × Nat :=
  if i < 16 then (Go.bits .xor .u32 d (Go.bits .and .u32 b (Go.bits .xor .u32 c d)), i)
  else if i < 32 then (Go.bits .xor .u32 c (Go.bits .and .u32 d (Go.bits .xor .u32 b c)), (5 * i + 1) % 16)
  else if i < 48 then (Go.bits .xor .u32 (Go.bits .xor .u32 b c) d, (3 * i + 5) % 16)
  else (Go.bits .xor .u32 c (Go.bits .or .u32 b (Go.bits .xor .u32 4294967295 d)), 7 * i % 16)
theorem mixF_lt (i : Nat) (hi : i < 64) (b c d : Int) : (mixF i b c d).2 < 16 := by
  unfold mixF
  split
  · assumption
  · split
    · exact Nat.mod_lt _ (by decide)
    · split <;> exact Nat.mod_lt _ (by decide)
theorem tdiv_nat (i n : Nat) : Int.tdiv (i : Int) (n : Int) = ((i / n : Nat) : Int) := rfl
theorem tmod_nat (i n : Nat) : Int.tmod (i : Int) (n : Int) = ((i % n : Nat) : Int) := rfl
set_option maxHeartbeats 4000000 in
set_option maxRecDepth 100000 in
theorem digest_mix.calls (i : Nat) (hi : i < 64) (b c d : Int) (w : World) :
    Calls Tryd.prog 28 #[.int .i64 i, .int .u32 b, .int .u32 c, .int .u32 d] w fun e w' => e = .returned (.tuple #[.int .u32 (mixF i b c d).1, .int .i64 ((mixF i b c d).2 : Nat)]) ∧ Below w.heap.size w w' := by
  have hq : Int.tdiv (i : Int) 16 = ((i / 16 : Nat) : Int) := tdiv_nat i 16
  unfold mixF
  by_cases h1 : i < 16
  · have hz : i / 16 = 0 := by omega
    rw [hz] at hq
    rw [if_pos h1]
    have HQ := Aside0.mk hq
    have hq0 : Int.tdiv (i : Int) 16 = 0 := hq
    clear hq
    go_enter Tryd.func28, Tryd.ntmps28
    go_wp2
    go_ret2
    exact ⟨rfl, Below.refl _ _⟩
  · rw [if_neg h1]
    by_cases h2 : i < 32
    · have hz : i / 16 = 1 := by omega
      rw [hz] at hq
      rw [if_pos h2]
      have hq0 : Int.tdiv (i : Int) 16 = 1 := hq
      have hr : Int.tmod (5 * (i : Int) + 1) 16 = (((5 * i + 1) % 16 : Nat) : Int) := tmod_nat (5 * i + 1) 16
      have w1 : wrap64 (5 * (i : Int)) = 5 * (i : Int) := Go.IntWalk.wrap64_in _ (by omega)
      have w2 : wrap64 (5 * (i : Int) + 1) = 5 * (i : Int) + 1 := Go.IntWalk.wrap64_in _ (by omega)
      clear hq
      go_enter Tryd.func28, Tryd.ntmps28
      go_wp2
      go_ret2
      exact ⟨rfl, Below.refl _ _⟩
    · rw [if_neg h2]
      by_cases h3 : i < 48
      · have hz : i / 16 = 2 := by omega
        rw [hz] at hq
        rw [if_pos h3]
        have hq0 : Int.tdiv (i : Int) 16 = 2 := hq
        have hr : Int.tmod (3 * (i : Int) + 5) 16 = (((3 * i + 5) % 16 : Nat) : Int) := tmod_nat (3 * i + 5) 16
        have w1 : wrap64 (3 * (i : Int)) = 3 * (i : Int) := Go.IntWalk.wrap64_in _ (by omega)
        have w2 : wrap64 (3 * (i : Int) + 5) = 3 * (i : Int) + 5 := Go.IntWalk.wrap64_in _ (by omega)
        clear hq
        go_enter Tryd.func28, Tryd.ntmps28
        go_wp2
        go_ret2
        exact ⟨rfl, Below.refl _ _⟩
      · rw [if_neg h3]
        have hz : i / 16 = 3 := by omega
        rw [hz] at hq
        have hq0 : Int.tdiv (i : Int) 16 = 3 := hq
        have hr : Int.tmod (7 * (i : Int)) 16 = (((7 * i) % 16 : Nat) : Int) := tmod_nat (7 * i) 16
        have w1 : wrap64 (7 * (i : Int)) = 7 * (i : Int) := Go.IntWalk.wrap64_in _ (by omega)
        clear hq
        go_enter Tryd.func28, Tryd.ntmps28
        go_wp2
        go_ret2
        exact ⟨rfl, Below.refl _ _⟩

/-! ### take: the regions that draw: by hand -/
def wc (ws : List Int) : Array Value := (ws.map (Value.int .u32)).toArray
theorem wc_size (ws : List Int) : (wc ws).size = ws.length := by simp [wc]
theorem wc_get {ws : List Int} {i : Nat} (h : i < ws.length) : (wc ws)[i]? = some (.int .u32 (ws.getD i 0)) := by
  simp [wc, List.getD_eq_getElem?_getD, List.getElem?_eq_getElem h]
theorem wc_set (ws : List Int) (i : Nat) (v : Int) : (wc ws).setIfInBounds i (.int .u32 v) = wc (ws.set i v) := by
  simp [wc, List.map_set]
theorem byte_get (s : ByteArray) (i : Nat) (h : i < s.size) : ((s[i]'h).toNat : Int) = (bytesOf s).getD i 0 := by
  have hl : i < s.data.toList.length := by rw [data_length]; exact h
  simp [bytesOf, List.getD_eq_getElem?_getD, List.getElem?_eq_getElem hl]
  rfl
def wordS (part : ByteArray) (ws : List Int) (i : Nat) : List Int := ws.set (i / 4) (Go.bits .or .u32 (ws.getD (i / 4) 0) ((bytesOf part).getD i 0 * 2 ^ (8 * (i % 4)) % 4294967296))
def takeWordV (gw i q m : Nat) (c : Int) (ws : List Int) (part : ByteArray) : Nat → Value → World → Prop
  | 0, v, _ => v = .int .i64 i
  | 1, v, _ => v = .int .i64 ((q : Int))
  | 2, v, _ => v = .pointer (some ⟨gw, q, none⟩)
  | 3, v, _ => v = .int .u32 ((ws.getD q 0))
  | 4, v, _ => v = .string part
  | 5, v, _ => v = .int .i64 i
  | 6, v, _ => v = .int .u8 (c)
  | 7, v, _ => v = .int .u32 (c)
  | 8, v, _ => v = .int .i64 i
  | 9, v, _ => v = .int .i64 ((m : Int))
  | 10, v, _ => v = .int .i64 (((8 * m : Nat) : Int))
  | 11, v, _ => v = .int .u32 (c * 2 ^ (8 * m) % 4294967296)
  | 12, v, _ => v = .int .u32 (Go.bits .or .u32 (ws.getD q 0) (c * 2 ^ (8 * m) % 4294967296))
  | 13, v, _ => v = .pointer (some ⟨gw, q, none⟩)
  | _, _, _ => True
set_option maxHeartbeats 4000000 in
set_option maxRecDepth 100000 in
theorem takeWord (ops : Array Oper) (hops : ops = opsOf Tryd.f18 5) (id : Nat) (Q : Exit → Act → World → Prop) (act : Act) (w : World) (hsz0 : act.tmps.size = 93) (gw i q m : Nat) (c : Int) (ws : List Int) (part : ByteArray)
    (h1 : act.eval (.tmp 1) = .string part) (h5 : act.eval (.tmp 5) = .pointer (some ⟨gw, 0, none⟩)) (h6 : act.eval (.tmp 6) = .int .i64 i)
    (bw : w.heap[gw]? = some (.cells (wc ws) 48 (0, 0))) (hwl : ws.length = 16) (hi64 : i < 64) (hps : 64 ≤ part.size)
    (hq : Int.tdiv (i : Int) 4 = (q : Int)) (hq16 : q < 16) (hm : Int.tmod (i : Int) 4 = (m : Int)) (hm4 : m < 4) (hci : (bytesOf part).getD i 0 = c) (hcm : c % 4294967296 = c)
    (hK : ∀ (u : Tmp → Value) (W : World), W.heap[gw]? = some (.cells (wc (ws.set q (Go.bits .or .u32 (ws.getD q 0) (c * 2 ^ (8 * m) % 4294967296)))) 48 (0, 0)) → (∀ n, n ≤ gw → Below n w W) → (∀ k, k < w.heap.size → k ≠ gw → W.heap[k]? = w.heap[k]?) → Q .normal (XReg.fills u [17, 18, 19, 20, 21, 22, 23, 24, 25, 26, 27, 28, 29, 30] act) W) :
    (Code.region id ops true).wp Tryd.prog Q act w := by
  subst hops
  refine (wpIn_wide (n := 9)).1 (XReg.region_runD (by kernel_rfl) 14 (by rw [hsz0]; kernel_rfl) (takeWordV gw i q m c ws part)
    (fun w' => Below w.heap.size w w') ?_ (fun w1 w2 h1 h2 => below_step h1 h2) ((Below.refl _ w).drew) ?_ ?_)
  · intro i v w1 w2 hv hb
    match i, hv with
    | 0, hv | 1, hv | 2, hv | 3, hv | 4, hv | 5, hv | 6, hv | 7, hv | 8, hv | 9, hv | 10, hv | 11, hv | 12, hv | 13, hv => exact hv
    | _ + 14, _ => trivial
  · intro i o a' w' hi ho hB hdf hr hd
    have cw := blk_below bw hB
    have hcases : i = 0 ∨ i = 1 ∨ i = 2 ∨ i = 3 ∨ i = 4 ∨ i = 5 ∨ i = 6 ∨ i = 7 ∨ i = 8 ∨ i = 9 ∨ i = 10 ∨ i = 11 ∨ i = 12 ∨ i = 13 := by omega
    rcases hcases with rfl | rfl | rfl | rfl | rfl | rfl | rfl | rfl | rfl | rfl | rfl | rfl | rfl | rfl
    · obtain ⟨hop, hdst⟩ := XReg.op_is (x := .move (.tmp 6)) (d := some 17) ho (by kernel_rfl)
      have e0 := (hr 6 (by kernel_rfl)).trans h6
      refine XReg.val_ (v := .int .i64 i) (w1 := w') (by rw [hop]; intro c h; cases h) (by simp [Oper.about, hop]) ?_ ⟨_, rfl, Below.refl _ _, rfl⟩
      unfold execOp
      rw [hop]
      clear hr hd hB
      generalize a'.eval = ρ at e0 ⊢
      go_simp
    · obtain ⟨hop, hdst⟩ := XReg.op_is (x := .binOp .quo 3 (.tmp 17) (.const (.int .i64 4)) 3) (d := some 18) ho (by kernel_rfl)
      have e0 : a'.eval (.tmp 17) = .int .i64 i := hd 0 17 (by kernel_rfl) (by omega)
      have e9 : a'.eval (.const (.int .i64 4)) = .int .i64 4 := rfl
      refine XReg.val_ (v := .int .i64 ((q : Int))) (w1 := w') (by rw [hop]; intro c h; cases h) (by simp [Oper.about, hop]) ?_ ⟨_, rfl, Below.refl _ _, rfl⟩
      unfold execOp
      rw [hop]
      clear hr hd hB
      generalize a'.eval = ρ at e0 e9 ⊢
      go_simp
      exact Go.IntWalk.i64_in (q : Int) (by omega)
    · obtain ⟨hop, hdst⟩ := XReg.op_is (x := .indexAddr 48 (.tmp 5) (.tmp 18)) (d := some 19) ho (by kernel_rfl)
      have e0 := (hr 5 (by kernel_rfl)).trans h5
      have e1 : a'.eval (.tmp 18) = .int .i64 ((q : Int)) := hd 1 18 (by kernel_rfl) (by omega)
      have hu48 := Tryd.underlying48
      have hi4z : (q : Int) < 16 := by omega
      refine XReg.val_ (v := .pointer (some ⟨gw, q, none⟩)) (w1 := w') (by rw [hop]; intro c h; cases h) (by simp [Oper.about, hop]) ?_ ⟨_, rfl, Below.refl _ _, rfl⟩
      unfold execOp
      rw [hop]
      clear hr hd hB
      generalize a'.eval = ρ at e0 e1 ⊢
      go_simp
    · obtain ⟨hop, hdst⟩ := XReg.op_is (x := .load 23 (.tmp 19)) (d := some 20) ho (by kernel_rfl)
      have e0 : a'.eval (.tmp 19) = .pointer (some ⟨gw, q, none⟩) := hd 2 19 (by kernel_rfl) (by omega)
      have hc : w'.cell? ⟨gw, q, none⟩ = some (.int .u32 ((ws.getD q 0))) := (blk_cell cw (q)).trans (wc_get (by omega))
      have hu23 := Tryd.underlying23
      refine XReg.val_ (v := .int .u32 ((ws.getD q 0))) (w1 := w') (by rw [hop]; intro c h; cases h) (by simp [Oper.about, hop]) ?_ ⟨_, rfl, Below.refl _ _, rfl⟩
      unfold execOp
      rw [hop]
      clear hr hd hB
      generalize a'.eval = ρ at e0 ⊢
      go_simp
    · obtain ⟨hop, hdst⟩ := XReg.op_is (x := .move (.tmp 1)) (d := some 21) ho (by kernel_rfl)
      have e0 := (hr 1 (by kernel_rfl)).trans h1
      refine XReg.val_ (v := .string part) (w1 := w') (by rw [hop]; intro c h; cases h) (by simp [Oper.about, hop]) ?_ ⟨_, rfl, Below.refl _ _, rfl⟩
      unfold execOp
      rw [hop]
      clear hr hd hB
      generalize a'.eval = ρ at e0 ⊢
      go_simp
    · obtain ⟨hop, hdst⟩ := XReg.op_is (x := .move (.tmp 6)) (d := some 22) ho (by kernel_rfl)
      have e0 := (hr 6 (by kernel_rfl)).trans h6
      refine XReg.val_ (v := .int .i64 i) (w1 := w') (by rw [hop]; intro c h; cases h) (by simp [Oper.about, hop]) ?_ ⟨_, rfl, Below.refl _ _, rfl⟩
      unfold execOp
      rw [hop]
      clear hr hd hB
      generalize a'.eval = ρ at e0 ⊢
      go_simp
    · obtain ⟨hop, hdst⟩ := XReg.op_is (x := .index 9 (.tmp 21) (.tmp 22)) (d := some 23) ho (by kernel_rfl)
      have e0 : a'.eval (.tmp 21) = .string part := hd 4 21 (by kernel_rfl) (by omega)
      have e1 : a'.eval (.tmp 22) = .int .i64 i := hd 5 22 (by kernel_rfl) (by omega)
      have hib : (i : Int) < (part.size : Int) := by omega
      have hu9 := Tryd.underlying9
      refine XReg.val_ (v := .int .u8 (c)) (w1 := w') (by rw [hop]; intro c h; cases h) (by simp [Oper.about, hop]) ?_ ⟨_, rfl, Below.refl _ _, rfl⟩
      unfold execOp
      rw [hop]
      clear hr hd hB
      generalize a'.eval = ρ at e0 e1 ⊢
      go_simp
      exact (byte_get part i (by omega)).trans hci
    · obtain ⟨hop, hdst⟩ := XReg.op_is (x := .convert 5 23 (.tmp 23)) (d := some 24) ho (by kernel_rfl)
      have e0 : a'.eval (.tmp 23) = .int .u8 (c) := hd 6 23 (by kernel_rfl) (by omega)
      have hu5 := Tryd.underlying5
      have hu23 := Tryd.underlying23
      refine XReg.val_ (v := .int .u32 (c)) (w1 := w') (by rw [hop]; intro c h; cases h) (by simp [Oper.about, hop]) ?_ ⟨_, rfl, Below.refl _ _, rfl⟩
      unfold execOp
      rw [hop]
      clear hr hd hB
      generalize a'.eval = ρ at e0 ⊢
      go_simp
      rw [IntKind.wrap_u32]
      exact hcm
    · obtain ⟨hop, hdst⟩ := XReg.op_is (x := .move (.tmp 6)) (d := some 25) ho (by kernel_rfl)
      have e0 := (hr 6 (by kernel_rfl)).trans h6
      refine XReg.val_ (v := .int .i64 i) (w1 := w') (by rw [hop]; intro c h; cases h) (by simp [Oper.about, hop]) ?_ ⟨_, rfl, Below.refl _ _, rfl⟩
      unfold execOp
      rw [hop]
      clear hr hd hB
      generalize a'.eval = ρ at e0 ⊢
      go_simp
    · obtain ⟨hop, hdst⟩ := XReg.op_is (x := .binOp .rem 3 (.tmp 25) (.const (.int .i64 4)) 3) (d := some 26) ho (by kernel_rfl)
      have e0 : a'.eval (.tmp 25) = .int .i64 i := hd 8 25 (by kernel_rfl) (by omega)
      have e9 : a'.eval (.const (.int .i64 4)) = .int .i64 4 := rfl
      refine XReg.val_ (v := .int .i64 ((m : Int))) (w1 := w') (by rw [hop]; intro c h; cases h) (by simp [Oper.about, hop]) ?_ ⟨_, rfl, Below.refl _ _, rfl⟩
      unfold execOp
      rw [hop]
      clear hr hd hB
      generalize a'.eval = ρ at e0 e9 ⊢
      go_simp
    · obtain ⟨hop, hdst⟩ := XReg.op_is (x := .binOp .mul 3 (.const (.int .i64 8)) (.tmp 26) 3) (d := some 27) ho (by kernel_rfl)
      have e0 : a'.eval (.tmp 26) = .int .i64 ((m : Int)) := hd 9 26 (by kernel_rfl) (by omega)
      have e9 : a'.eval (.const (.int .i64 8)) = .int .i64 8 := rfl
      have hm8 : wrap64 (8 * (m : Int)) = 8 * (m : Int) := Go.IntWalk.wrap64_in _ (by omega)
      refine XReg.val_ (v := .int .i64 (((8 * m : Nat) : Int))) (w1 := w') (by rw [hop]; intro c h; cases h) (by simp [Oper.about, hop]) ?_ ⟨_, rfl, Below.refl _ _, rfl⟩
      unfold execOp
      rw [hop]
      clear hr hd hB
      generalize a'.eval = ρ at e0 e9 ⊢
      go_simp
      exact Go.IntWalk.i64_in (8 * (m : Int)) (by omega)
    · obtain ⟨hop, hdst⟩ := XReg.op_is (x := .binOp .shl 23 (.tmp 24) (.tmp 27) 3) (d := some 28) ho (by kernel_rfl)
      have e0 : a'.eval (.tmp 24) = .int .u32 (c) := hd 7 24 (by kernel_rfl) (by omega)
      have e1 : a'.eval (.tmp 27) = .int .i64 (((8 * m : Nat) : Int)) := hd 10 27 (by kernel_rfl) (by omega)
      refine XReg.val_ (v := .int .u32 (c * 2 ^ (8 * m) % 4294967296)) (w1 := w') (by rw [hop]; intro c h; cases h) (by simp [Oper.about, hop]) ?_ ⟨_, rfl, Below.refl _ _, rfl⟩
      unfold execOp
      rw [hop]
      clear hr hd hB
      generalize a'.eval = ρ at e0 e1 ⊢
      go_simp
      rw [IntKind.wrap_u32, show (8 * (m : Int)).toNat = 8 * m by omega]
    · obtain ⟨hop, hdst⟩ := XReg.op_is (x := .binOp .or 23 (.tmp 20) (.tmp 28) 23) (d := some 29) ho (by kernel_rfl)
      have e0 : a'.eval (.tmp 20) = .int .u32 ((ws.getD q 0)) := hd 3 20 (by kernel_rfl) (by omega)
      have e1 : a'.eval (.tmp 28) = .int .u32 (c * 2 ^ (8 * m) % 4294967296) := hd 11 28 (by kernel_rfl) (by omega)
      refine XReg.val_ (v := .int .u32 (Go.bits .or .u32 (ws.getD q 0) (c * 2 ^ (8 * m) % 4294967296))) (w1 := w') (by rw [hop]; intro c h; cases h) (by simp [Oper.about, hop]) ?_ ⟨_, rfl, Below.refl _ _, rfl⟩
      unfold execOp
      rw [hop]
      clear hr hd hB
      generalize a'.eval = ρ at e0 e1 ⊢
      go_simp
    · obtain ⟨hop, hdst⟩ := XReg.op_is (x := .indexAddr 48 (.tmp 5) (.tmp 18)) (d := some 30) ho (by kernel_rfl)
      have e0 := (hr 5 (by kernel_rfl)).trans h5
      have e1 : a'.eval (.tmp 18) = .int .i64 ((q : Int)) := hd 1 18 (by kernel_rfl) (by omega)
      have hu48 := Tryd.underlying48
      have hi4z : (q : Int) < 16 := by omega
      refine XReg.val_ (v := .pointer (some ⟨gw, q, none⟩)) (w1 := w') (by rw [hop]; intro c h; cases h) (by simp [Oper.about, hop]) ?_ ⟨_, rfl, Below.refl _ _, rfl⟩
      unfold execOp
      rw [hop]
      clear hr hd hB
      generalize a'.eval = ρ at e0 e1 ⊢
      go_simp
  · intro o a' w' ho hB hdf hsz' hr hd
    have cw := blk_below bw hB
    have hfill := XReg.fill_eq [17, 18, 19, 20, 21, 22, 23, 24, 25, 26, 27, 28, 29, 30] hsz' hdf (XReg.rest_of (ops := opsOf Tryd.f18 5) (m := 14) (by kernel_rfl) hr)
    obtain ⟨hop, hdst⟩ := XReg.op_is (x := .store 23 (.tmp 30) (.tmp 29)) (d := none) ho (by kernel_rfl)
    have e0 : a'.eval (.tmp 30) = .pointer (some ⟨gw, q, none⟩) := hd 13 30 (by kernel_rfl) (by omega)
    have e1 : a'.eval (.tmp 29) = .int .u32 (Go.bits .or .u32 (ws.getD q 0) (c * 2 ^ (8 * m) % 4294967296)) := hd 12 29 (by kernel_rfl) (by omega)
    have hc : w'.cell? ⟨gw, q, none⟩ = some (.int .u32 ((ws.getD q 0))) := (blk_cell cw (q)).trans (wc_get (by omega))
    have hkk := hK (fun d => a'.eval (.tmp d)) (w'.setCell ⟨gw, q, none⟩ (.int .u32 (Go.bits .or .u32 (ws.getD q 0) (c * 2 ^ (8 * m) % 4294967296)))) (blk_put cw _ _ (wc_set _ _ _)) (fun n hn => (hB.mono (Nat.le_trans hn (Nat.le_of_lt (blk_lt bw)))).setCell hn _) (fun k hk hne => (Below.heap_setCell _ _ _ _ hne).trans (hB.block k hk))
    rw [← hfill] at hkk
    refine XReg.skip_ (w1 := w'.setCell ⟨gw, q, none⟩ (.int .u32 (Go.bits .or .u32 (ws.getD q 0) (c * 2 ^ (8 * m) % 4294967296)))) (by rw [hop]; intro c h; cases h) (by simp [Oper.about, hop]) ?_ (by rw [hdst]; exact hkk)
    unfold execOp
    rw [hop]
    clear hr hd hB hfill hkk
    have hu23 := Tryd.underlying23
    have hfz : w'.frozen? ⟨gw, q, none⟩ = false := by simp [World.frozen?, cw]
    generalize a'.eval = ρ at e0 e1 ⊢
    go_simp
def takeHeadV (gh : Nat) (h0 h1 h2 h3 : Int) : Nat → Value → World → Prop
  | 0, v, _ => v = .pointer (some ⟨gh, 0, none⟩)
  | 1, v, _ => v = .int .u32 h0
  | 2, v, _ => v = .pointer (some ⟨gh, 1, none⟩)
  | 3, v, _ => v = .int .u32 h1
  | 4, v, _ => v = .pointer (some ⟨gh, 2, none⟩)
  | 5, v, _ => v = .int .u32 h2
  | 6, v, _ => v = .pointer (some ⟨gh, 3, none⟩)
  | 7, v, _ => v = .int .u32 h3
  | 8, v, _ => v = .int .u32 h0
  | 9, v, _ => v = .int .u32 h1
  | 10, v, _ => v = .int .u32 h2
  | _, _, _ => True
set_option maxHeartbeats 4000000 in
set_option maxRecDepth 100000 in
theorem takeHead (ops : Array Oper) (hops : ops = opsOf Tryd.f18 7) (id : Nat) (Q : Exit → Act → World → Prop) (act : Act) (w : World) (hsz0 : act.tmps.size = 93) (gh : Nat) (h0 h1 h2 h3 : Int)
    (h2' : act.eval (.tmp 2) = .pointer (some ⟨gh, 0, none⟩))
    (bh : w.heap[gh]? = some (.cells #[.int .u32 h0, .int .u32 h1, .int .u32 h2, .int .u32 h3] 37 (0, 0)))
    (hK : ∀ (u : Tmp → Value) (W : World), u 7 = .int .u32 h0 → u 8 = .int .u32 h1 → u 9 = .int .u32 h2 → Below w.heap.size w W → Q .normal ((XReg.fills u [32, 33, 34, 35, 36, 37, 38, 39, 7, 8, 9] act).put (some 10) (.int .u32 h3)) W) :
    (Code.region id ops true).wp Tryd.prog Q act w := by
  subst hops
  refine (wpIn_wide (n := 9)).1 (XReg.region_runD (by kernel_rfl) 11 (by rw [hsz0]; kernel_rfl) (takeHeadV gh h0 h1 h2 h3)
    (fun w' => Below w.heap.size w w') ?_ (fun w1 w2 h1 h2 => below_step h1 h2) ((Below.refl _ w).drew) ?_ ?_)
  · intro i v w1 w2 hv hb
    match i, hv with
    | 0, hv | 1, hv | 2, hv | 3, hv | 4, hv | 5, hv | 6, hv | 7, hv | 8, hv | 9, hv | 10, hv => exact hv
    | _ + 11, _ => trivial
  · intro i o a' w' hi ho hB hdf hr hd
    have ch := blk_below bh hB
    have hcases : i = 0 ∨ i = 1 ∨ i = 2 ∨ i = 3 ∨ i = 4 ∨ i = 5 ∨ i = 6 ∨ i = 7 ∨ i = 8 ∨ i = 9 ∨ i = 10 := by omega
    rcases hcases with rfl | rfl | rfl | rfl | rfl | rfl | rfl | rfl | rfl | rfl | rfl
    · obtain ⟨hop, hdst⟩ := XReg.op_is (x := .indexAddr 37 (.tmp 2) (.const (.int .i64 0))) (d := some 32) ho (by kernel_rfl)
      have e0 := (hr 2 (by kernel_rfl)).trans h2'
      have e9 : a'.eval (.const (.int .i64 0)) = .int .i64 0 := rfl
      have hu37 := Tryd.underlying37
      refine XReg.val_ (v := .pointer (some ⟨gh, 0, none⟩)) (w1 := w') (by rw [hop]; intro c h; cases h) (by simp [Oper.about, hop]) ?_ ⟨_, rfl, Below.refl _ _, rfl⟩
      unfold execOp
      rw [hop]
      clear hr hd hB
      generalize a'.eval = ρ at e0 e9 ⊢
      go_simp
    · obtain ⟨hop, hdst⟩ := XReg.op_is (x := .load 23 (.tmp 32)) (d := some 33) ho (by kernel_rfl)
      have e0 : a'.eval (.tmp 32) = .pointer (some ⟨gh, 0, none⟩) := hd 0 32 (by kernel_rfl) (by omega)
      have hc : w'.cell? ⟨gh, 0, none⟩ = some (.int .u32 h0) := (blk_cell ch 0).trans rfl
      have hu23 := Tryd.underlying23
      refine XReg.val_ (v := .int .u32 h0) (w1 := w') (by rw [hop]; intro c h; cases h) (by simp [Oper.about, hop]) ?_ ⟨_, rfl, Below.refl _ _, rfl⟩
      unfold execOp
      rw [hop]
      clear hr hd hB
      generalize a'.eval = ρ at e0 ⊢
      go_simp
    · obtain ⟨hop, hdst⟩ := XReg.op_is (x := .indexAddr 37 (.tmp 2) (.const (.int .i64 1))) (d := some 34) ho (by kernel_rfl)
      have e0 := (hr 2 (by kernel_rfl)).trans h2'
      have e9 : a'.eval (.const (.int .i64 1)) = .int .i64 1 := rfl
      have hu37 := Tryd.underlying37
      refine XReg.val_ (v := .pointer (some ⟨gh, 1, none⟩)) (w1 := w') (by rw [hop]; intro c h; cases h) (by simp [Oper.about, hop]) ?_ ⟨_, rfl, Below.refl _ _, rfl⟩
      unfold execOp
      rw [hop]
      clear hr hd hB
      generalize a'.eval = ρ at e0 e9 ⊢
      go_simp
    · obtain ⟨hop, hdst⟩ := XReg.op_is (x := .load 23 (.tmp 34)) (d := some 35) ho (by kernel_rfl)
      have e0 : a'.eval (.tmp 34) = .pointer (some ⟨gh, 1, none⟩) := hd 2 34 (by kernel_rfl) (by omega)
      have hc : w'.cell? ⟨gh, 1, none⟩ = some (.int .u32 h1) := (blk_cell ch 1).trans rfl
      have hu23 := Tryd.underlying23
      refine XReg.val_ (v := .int .u32 h1) (w1 := w') (by rw [hop]; intro c h; cases h) (by simp [Oper.about, hop]) ?_ ⟨_, rfl, Below.refl _ _, rfl⟩
      unfold execOp
      rw [hop]
      clear hr hd hB
      generalize a'.eval = ρ at e0 ⊢
      go_simp
    · obtain ⟨hop, hdst⟩ := XReg.op_is (x := .indexAddr 37 (.tmp 2) (.const (.int .i64 2))) (d := some 36) ho (by kernel_rfl)
      have e0 := (hr 2 (by kernel_rfl)).trans h2'
      have e9 : a'.eval (.const (.int .i64 2)) = .int .i64 2 := rfl
      have hu37 := Tryd.underlying37
      refine XReg.val_ (v := .pointer (some ⟨gh, 2, none⟩)) (w1 := w') (by rw [hop]; intro c h; cases h) (by simp [Oper.about, hop]) ?_ ⟨_, rfl, Below.refl _ _, rfl⟩
      unfold execOp
      rw [hop]
      clear hr hd hB
      generalize a'.eval = ρ at e0 e9 ⊢
      go_simp
    · obtain ⟨hop, hdst⟩ := XReg.op_is (x := .load 23 (.tmp 36)) (d := some 37) ho (by kernel_rfl)
      have e0 : a'.eval (.tmp 36) = .pointer (some ⟨gh, 2, none⟩) := hd 4 36 (by kernel_rfl) (by omega)
      have hc : w'.cell? ⟨gh, 2, none⟩ = some (.int .u32 h2) := (blk_cell ch 2).trans rfl
      have hu23 := Tryd.underlying23
      refine XReg.val_ (v := .int .u32 h2) (w1 := w') (by rw [hop]; intro c h; cases h) (by simp [Oper.about, hop]) ?_ ⟨_, rfl, Below.refl _ _, rfl⟩
      unfold execOp
      rw [hop]
      clear hr hd hB
      generalize a'.eval = ρ at e0 ⊢
      go_simp
    · obtain ⟨hop, hdst⟩ := XReg.op_is (x := .indexAddr 37 (.tmp 2) (.const (.int .i64 3))) (d := some 38) ho (by kernel_rfl)
      have e0 := (hr 2 (by kernel_rfl)).trans h2'
      have e9 : a'.eval (.const (.int .i64 3)) = .int .i64 3 := rfl
      have hu37 := Tryd.underlying37
      refine XReg.val_ (v := .pointer (some ⟨gh, 3, none⟩)) (w1 := w') (by rw [hop]; intro c h; cases h) (by simp [Oper.about, hop]) ?_ ⟨_, rfl, Below.refl _ _, rfl⟩
      unfold execOp
      rw [hop]
      clear hr hd hB
      generalize a'.eval = ρ at e0 e9 ⊢
      go_simp
    · obtain ⟨hop, hdst⟩ := XReg.op_is (x := .load 23 (.tmp 38)) (d := some 39) ho (by kernel_rfl)
      have e0 : a'.eval (.tmp 38) = .pointer (some ⟨gh, 3, none⟩) := hd 6 38 (by kernel_rfl) (by omega)
      have hc : w'.cell? ⟨gh, 3, none⟩ = some (.int .u32 h3) := (blk_cell ch 3).trans rfl
      have hu23 := Tryd.underlying23
      refine XReg.val_ (v := .int .u32 h3) (w1 := w') (by rw [hop]; intro c h; cases h) (by simp [Oper.about, hop]) ?_ ⟨_, rfl, Below.refl _ _, rfl⟩
      unfold execOp
      rw [hop]
      clear hr hd hB
      generalize a'.eval = ρ at e0 ⊢
      go_simp
    · obtain ⟨hop, hdst⟩ := XReg.op_is (x := .assign (.tmp 33)) (d := some 7) ho (by kernel_rfl)
      have e0 : a'.eval (.tmp 33) = .int .u32 h0 := hd 1 33 (by kernel_rfl) (by omega)
      refine XReg.val_ (v := .int .u32 h0) (w1 := w') (by rw [hop]; intro c h; cases h) (by simp [Oper.about, hop]) ?_ ⟨_, rfl, Below.refl _ _, rfl⟩
      unfold execOp
      rw [hop]
      clear hr hd hB
      generalize a'.eval = ρ at e0 ⊢
      go_simp
    · obtain ⟨hop, hdst⟩ := XReg.op_is (x := .assign (.tmp 35)) (d := some 8) ho (by kernel_rfl)
      have e0 : a'.eval (.tmp 35) = .int .u32 h1 := hd 3 35 (by kernel_rfl) (by omega)
      refine XReg.val_ (v := .int .u32 h1) (w1 := w') (by rw [hop]; intro c h; cases h) (by simp [Oper.about, hop]) ?_ ⟨_, rfl, Below.refl _ _, rfl⟩
      unfold execOp
      rw [hop]
      clear hr hd hB
      generalize a'.eval = ρ at e0 ⊢
      go_simp
    · obtain ⟨hop, hdst⟩ := XReg.op_is (x := .assign (.tmp 37)) (d := some 9) ho (by kernel_rfl)
      have e0 : a'.eval (.tmp 37) = .int .u32 h2 := hd 5 37 (by kernel_rfl) (by omega)
      refine XReg.val_ (v := .int .u32 h2) (w1 := w') (by rw [hop]; intro c h; cases h) (by simp [Oper.about, hop]) ?_ ⟨_, rfl, Below.refl _ _, rfl⟩
      unfold execOp
      rw [hop]
      clear hr hd hB
      generalize a'.eval = ρ at e0 ⊢
      go_simp
  · intro o a' w' ho hB hdf hsz' hr hd
    have ch := blk_below bh hB
    have hfill := XReg.fill_eq [32, 33, 34, 35, 36, 37, 38, 39, 7, 8, 9] hsz' hdf (XReg.rest_of (ops := opsOf Tryd.f18 7) (m := 11) (by kernel_rfl) hr)
    obtain ⟨hop, hdst⟩ := XReg.op_is (x := .assign (.tmp 39)) (d := some 10) ho (by kernel_rfl)
    have e1 : a'.eval (.tmp 39) = .int .u32 h3 := hd 7 39 (by kernel_rfl) (by omega)
    have e7 : a'.eval (.tmp 7) = .int .u32 h0 := hd 8 7 (by kernel_rfl) (by omega)
    have e8 : a'.eval (.tmp 8) = .int .u32 h1 := hd 9 8 (by kernel_rfl) (by omega)
    have e9 : a'.eval (.tmp 9) = .int .u32 h2 := hd 10 9 (by kernel_rfl) (by omega)
    refine XReg.val_ (v := .int .u32 h3) (w1 := w') (by rw [hop]; intro c h; cases h) (by simp [Oper.about, hop]) ?_ (by rw [hdst, hfill]; exact hK _ w' e7 e8 e9 hB)
    unfold execOp
    rw [hop]
    clear hr hd hB hfill e7 e8 e9
    generalize a'.eval = ρ at e1 ⊢
    go_simp
def sinesL : List Int := [3614090360, 3905402710, 606105819, 3250441966, 4118548399, 1200080426, 2821735955, 4249261313, 1770035416, 2336552879, 4294925233, 2304563134, 1804603682, 4254626195, 2792965006, 1236535329, 4129170786, 3225465664, 643717713, 3921069994, 3593408605, 38016083, 3634488961, 3889429448, 568446438, 3275163606, 4107603335, 1163531501, 2850285829, 4243563512, 1735328473, 2368359562, 4294588738, 2272392833, 1839030562, 4259657740, 2763975236, 1272893353, 4139469664, 3200236656, 681279174, 3936430074, 3572445317, 76029189, 3654602809, 3873151461, 530742520, 3299628645, 4096336452, 1126891415, 2878612391, 4237533241, 1700485571, 2399980690, 4293915773, 2240044497, 1873313359, 4264355552, 2734768916, 1309151649, 4149444226, 3174756917, 718787259, 3951481745]
def turnsL : List Nat := [7, 12, 17, 22, 5, 9, 14, 20, 4, 11, 16, 23, 6, 10, 15, 21]
structure Glob (w : World) : Prop where
  size : 3 < w.heap.size
  s : ∀ i, i < 64 → w.cell? ⟨2, i, none⟩ = some (.int .u32 (sinesL.getD i 0))
  t : ∀ i, i < 16 → w.cell? ⟨3, i, none⟩ = some (.int .i64 (turnsL.getD i 0 : Nat))
theorem Glob.below {w w' : World} (h : Glob w) (hb : Below w.heap.size w w') : Glob w' :=
  ⟨Nat.lt_of_lt_of_le h.size hb.size, fun i hi => (hb.cell (p := ⟨2, i, none⟩) (by have := h.size; show 2 < _; omega)).trans (h.s i hi), fun i hi => (hb.cell (p := ⟨3, i, none⟩) h.size).trans (h.t i hi)⟩
def rotF (x : Int) (n : Nat) : Int := Go.bits .or .u32 (x * 2 ^ n % 4294967296) (x / 2 ^ (32 - n))
theorem and31 : ∀ n : Nat, n < 32 → Go.bits .and .u64 (n : Int) 31 = (n : Int) := by decide
theorem rot_eq (x : Int) (n : Nat) (h : n < 32) : bits_RotateLeft32.f x n = some (rotF x n) := by
  have e1 : IntKind.u64.wrap (n : Int) = (n : Int) := by rw [IntKind.wrap_u64]; omega
  have e2 : IntKind.u64.wrap (32 - (n : Int)) = 32 - (n : Int) := by rw [IntKind.wrap_u64]; omega
  have e3 : min ((n : Int).toNat) IntKind.u32.bits = n := by show min ((n : Int).toNat) 32 = n; omega
  have e4 : min ((32 - (n : Int)).toNat) IntKind.u32.bits = 32 - n := by show min ((32 - (n : Int)).toNat) 32 = 32 - n; omega
  unfold bits_RotateLeft32.f
  rw [e1, and31 n h, if_pos (by omega), e2, if_pos (by omega)]
  unfold shl shr rotF
  rw [e3, e4, IntKind.wrap_u32]
theorem turn_lt : ∀ j, j < 16 → turnsL.getD j 0 < 32 := by decide
def takeStepV (gw i q m k : Nat) (a b c d f : Int) (ws : List Int) : Nat → Value → World → Prop
  | 0, v, _ => v = .int .u32 d
  | 1, v, _ => v = .int .u32 b
  | 2, v, _ => v = .int .u32 a
  | 3, v, _ => v = .int .u32 f
  | 4, v, _ => v = .int .u32 ((a + f) % 4294967296)
  | 5, v, _ => v = .int .i64 k
  | 6, v, _ => v = .pointer (some ⟨gw, k, none⟩)
  | 7, v, _ => v = .int .u32 (ws.getD k 0)
  | 8, v, _ => v = .int .u32 ((((a + f) % 4294967296) + ws.getD k 0) % 4294967296)
  | 9, v, _ => v = .int .i64 i
  | 10, v, _ => v = .pointer (some ⟨2, i, none⟩)
  | 11, v, _ => v = .int .u32 (sinesL.getD i 0)
  | 12, v, _ => v = .int .u32 ((((((a + f) % 4294967296) + ws.getD k 0) % 4294967296) + sinesL.getD i 0) % 4294967296)
  | 13, v, _ => v = .int .i64 i
  | 14, v, _ => v = .int .i64 q
  | 15, v, _ => v = .int .i64 i
  | 16, v, _ => v = .int .i64 m
  | 17, v, _ => v = .pointer (some ⟨3, 4 * q, none⟩)
  | 18, v, _ => v = .pointer (some ⟨3, 4 * q + m, none⟩)
  | 19, v, _ => v = .int .i64 ((turnsL.getD (4 * q + m) 0 : Nat) : Int)
  | 20, v, _ => v = .int .u32 (rotF ((((((a + f) % 4294967296) + ws.getD k 0) % 4294967296) + sinesL.getD i 0) % 4294967296) (turnsL.getD (4 * q + m) 0))
  | 21, v, _ => v = .int .u32 ((b + (rotF ((((((a + f) % 4294967296) + ws.getD k 0) % 4294967296) + sinesL.getD i 0) % 4294967296) (turnsL.getD (4 * q + m) 0))) % 4294967296)
  | 22, v, _ => v = .int .u32 b
  | 23, v, _ => v = .int .u32 c
  | 24, v, _ => v = .int .u32 d
  | _, _, _ => True
def takeStepT (act : Act) (w : World) (nb b c d : Int) (i : Nat) (a : Act) (W : World) : Prop := ∃ u : Tmp → Value, u 7 = .int .u32 d ∧ u 73 = .int .u32 b ∧ u 74 = .int .u32 c ∧ Below w.heap.size w W ∧
  ((i = 26 ∧ a = (XReg.fills u [51, 52, 53, 54, 55, 56, 57, 58, 59, 60, 61, 62, 63, 64, 65, 66, 67, 68, 69, 70, 71, 72, 73, 74, 7] act).put (some 8) (.int .u32 nb)) ∨ (i = 27 ∧ a = ((XReg.fills u [51, 52, 53, 54, 55, 56, 57, 58, 59, 60, 61, 62, 63, 64, 65, 66, 67, 68, 69, 70, 71, 72, 73, 74, 7] act).put (some 8) (.int .u32 nb)).put (some 9) (.int .u32 b)) ∨ (i = 28 ∧ a = (((XReg.fills u [51, 52, 53, 54, 55, 56, 57, 58, 59, 60, 61, 62, 63, 64, 65, 66, 67, 68, 69, 70, 71, 72, 73, 74, 7] act).put (some 8) (.int .u32 nb)).put (some 9) (.int .u32 b)).put (some 10) (.int .u32 c)))
set_option maxHeartbeats 4000000 in
set_option maxRecDepth 100000 in
theorem takeStep (ops : Array Oper) (hops : ops = opsOf Tryd.f18 12) (id : Nat) (Q : Exit → Act → World → Prop) (act : Act) (w : World) (hsz0 : act.tmps.size = 93) (gw i q m k : Nat) (a b c d f : Int) (ws : List Int)
    (h5 : act.eval (.tmp 5) = .pointer (some ⟨gw, 0, none⟩)) (h7 : act.eval (.tmp 7) = .int .u32 a) (h8 : act.eval (.tmp 8) = .int .u32 b) (h9 : act.eval (.tmp 9) = .int .u32 c) (h10 : act.eval (.tmp 10) = .int .u32 d) (h11 : act.eval (.tmp 11) = .int .i64 i) (h12 : act.eval (.tmp 12) = .int .u32 f) (h13 : act.eval (.tmp 13) = .int .i64 k)
    (bw : w.heap[gw]? = some (.cells (wc ws) 48 (0, 0))) (hwl : ws.length = 16) (gl : Glob w) (hi64 : i < 64) (hk16 : k < 16)
    (hq : Int.tdiv (i : Int) 16 = (q : Int)) (hq4 : q < 4) (hm : Int.tmod (i : Int) 4 = (m : Int)) (hm4 : m < 4)
    (hK : ∀ (u : Tmp → Value) (W : World), u 7 = .int .u32 d → Below w.heap.size w W → Q .normal ((((XReg.fills u [51, 52, 53, 54, 55, 56, 57, 58, 59, 60, 61, 62, 63, 64, 65, 66, 67, 68, 69, 70, 71, 72, 73, 74, 7] act).put (some 8) (.int .u32 ((b + (rotF ((((((a + f) % 4294967296) + ws.getD k 0) % 4294967296) + sinesL.getD i 0) % 4294967296) (turnsL.getD (4 * q + m) 0))) % 4294967296))).put (some 9) (.int .u32 b)).put (some 10) (.int .u32 c)) W) :
    (Code.region id ops true).wp Tryd.prog Q act w := by
  subst hops
  refine (wpIn_wide (n := 9)).1 (XReg.region_goT (by kernel_rfl) 25 (by rw [hsz0]; kernel_rfl) (takeStepV gw i q m k a b c d f ws)
    (fun w' => Below w.heap.size w w') (takeStepT act w ((b + (rotF ((((((a + f) % 4294967296) + ws.getD k 0) % 4294967296) + sinesL.getD i 0) % 4294967296) (turnsL.getD (4 * q + m) 0))) % 4294967296) b c d) ?_ (fun w1 w2 h1 h2 => below_step h1 h2) ((Below.refl _ w).drew) ?_ ?_ ?_ ?_)
  · intro i v w1 w2 hv hb
    match i, hv with
    | 0, hv | 1, hv | 2, hv | 3, hv | 4, hv | 5, hv | 6, hv | 7, hv | 8, hv | 9, hv | 10, hv | 11, hv | 12, hv | 13, hv | 14, hv | 15, hv | 16, hv | 17, hv | 18, hv | 19, hv | 20, hv | 21, hv | 22, hv | 23, hv | 24, hv => exact hv
    | _ + 25, _ => trivial
  · intro i o a' w' hi ho hB hdf hr hd
    have cw := blk_below bw hB
    have cg := gl.below hB
    have hcases : i = 0 ∨ i = 1 ∨ i = 2 ∨ i = 3 ∨ i = 4 ∨ i = 5 ∨ i = 6 ∨ i = 7 ∨ i = 8 ∨ i = 9 ∨ i = 10 ∨ i = 11 ∨ i = 12 ∨ i = 13 ∨ i = 14 ∨ i = 15 ∨ i = 16 ∨ i = 17 ∨ i = 18 ∨ i = 19 ∨ i = 20 ∨ i = 21 ∨ i = 22 ∨ i = 23 ∨ i = 24 := by omega
    rcases hcases with rfl | rfl | rfl | rfl | rfl | rfl | rfl | rfl | rfl | rfl | rfl | rfl | rfl | rfl | rfl | rfl | rfl | rfl | rfl | rfl | rfl | rfl | rfl | rfl | rfl
    · obtain ⟨hop, hdst⟩ := XReg.op_is (x := .move (.tmp 10)) (d := some 51) ho (by kernel_rfl)
      have e0 := (hr 10 (by kernel_rfl)).trans h10
      refine XReg.val_ (v := .int .u32 d) (w1 := w') (by rw [hop]; intro c h; cases h) (by simp [Oper.about, hop]) ?_ ⟨_, rfl, Below.refl _ _, rfl⟩
      unfold execOp
      rw [hop]
      clear hr hd hB
      generalize a'.eval = ρ at e0 ⊢
      go_simp
    · obtain ⟨hop, hdst⟩ := XReg.op_is (x := .move (.tmp 8)) (d := some 52) ho (by kernel_rfl)
      have e0 := (hr 8 (by kernel_rfl)).trans h8
      refine XReg.val_ (v := .int .u32 b) (w1 := w') (by rw [hop]; intro c h; cases h) (by simp [Oper.about, hop]) ?_ ⟨_, rfl, Below.refl _ _, rfl⟩
      unfold execOp
      rw [hop]
      clear hr hd hB
      generalize a'.eval = ρ at e0 ⊢
      go_simp
    · obtain ⟨hop, hdst⟩ := XReg.op_is (x := .move (.tmp 7)) (d := some 53) ho (by kernel_rfl)
      have e0 := (hr 7 (by kernel_rfl)).trans h7
      refine XReg.val_ (v := .int .u32 a) (w1 := w') (by rw [hop]; intro c h; cases h) (by simp [Oper.about, hop]) ?_ ⟨_, rfl, Below.refl _ _, rfl⟩
      unfold execOp
      rw [hop]
      clear hr hd hB
      generalize a'.eval = ρ at e0 ⊢
      go_simp
    · obtain ⟨hop, hdst⟩ := XReg.op_is (x := .move (.tmp 12)) (d := some 54) ho (by kernel_rfl)
      have e0 := (hr 12 (by kernel_rfl)).trans h12
      refine XReg.val_ (v := .int .u32 f) (w1 := w') (by rw [hop]; intro c h; cases h) (by simp [Oper.about, hop]) ?_ ⟨_, rfl, Below.refl _ _, rfl⟩
      unfold execOp
      rw [hop]
      clear hr hd hB
      generalize a'.eval = ρ at e0 ⊢
      go_simp
    · obtain ⟨hop, hdst⟩ := XReg.op_is (x := .binOp .add 23 (.tmp 53) (.tmp 54) 23) (d := some 55) ho (by kernel_rfl)
      have e0 : a'.eval (.tmp 53) = .int .u32 a := hd 2 53 (by kernel_rfl) (by omega)
      have e1 : a'.eval (.tmp 54) = .int .u32 f := hd 3 54 (by kernel_rfl) (by omega)
      refine XReg.val_ (v := .int .u32 ((a + f) % 4294967296)) (w1 := w') (by rw [hop]; intro c h; cases h) (by simp [Oper.about, hop]) ?_ ⟨_, rfl, Below.refl _ _, rfl⟩
      unfold execOp
      rw [hop]
      clear hr hd hB
      generalize a'.eval = ρ at e0 e1 ⊢
      go_simp
      rw [IntKind.wrap_u32]
    · obtain ⟨hop, hdst⟩ := XReg.op_is (x := .move (.tmp 13)) (d := some 56) ho (by kernel_rfl)
      have e0 := (hr 13 (by kernel_rfl)).trans h13
      refine XReg.val_ (v := .int .i64 k) (w1 := w') (by rw [hop]; intro c h; cases h) (by simp [Oper.about, hop]) ?_ ⟨_, rfl, Below.refl _ _, rfl⟩
      unfold execOp
      rw [hop]
      clear hr hd hB
      generalize a'.eval = ρ at e0 ⊢
      go_simp
    · obtain ⟨hop, hdst⟩ := XReg.op_is (x := .indexAddr 48 (.tmp 5) (.tmp 56)) (d := some 57) ho (by kernel_rfl)
      have e0 := (hr 5 (by kernel_rfl)).trans h5
      have e1 : a'.eval (.tmp 56) = .int .i64 k := hd 5 56 (by kernel_rfl) (by omega)
      have hu48 := Tryd.underlying48
      have hi4z : (k : Int) < 16 := by omega
      refine XReg.val_ (v := .pointer (some ⟨gw, k, none⟩)) (w1 := w') (by rw [hop]; intro c h; cases h) (by simp [Oper.about, hop]) ?_ ⟨_, rfl, Below.refl _ _, rfl⟩
      unfold execOp
      rw [hop]
      clear hr hd hB
      generalize a'.eval = ρ at e0 e1 ⊢
      go_simp
    · obtain ⟨hop, hdst⟩ := XReg.op_is (x := .load 23 (.tmp 57)) (d := some 58) ho (by kernel_rfl)
      have e0 : a'.eval (.tmp 57) = .pointer (some ⟨gw, k, none⟩) := hd 6 57 (by kernel_rfl) (by omega)
      have hc : w'.cell? ⟨gw, k, none⟩ = some (.int .u32 (ws.getD k 0)) := (blk_cell cw k).trans (wc_get (by omega))
      have hu23 := Tryd.underlying23
      refine XReg.val_ (v := .int .u32 (ws.getD k 0)) (w1 := w') (by rw [hop]; intro c h; cases h) (by simp [Oper.about, hop]) ?_ ⟨_, rfl, Below.refl _ _, rfl⟩
      unfold execOp
      rw [hop]
      clear hr hd hB
      clear cg gl
      generalize a'.eval = ρ at e0 ⊢
      go_simp
    · obtain ⟨hop, hdst⟩ := XReg.op_is (x := .binOp .add 23 (.tmp 55) (.tmp 58) 23) (d := some 59) ho (by kernel_rfl)
      have e0 : a'.eval (.tmp 55) = .int .u32 ((a + f) % 4294967296) := hd 4 55 (by kernel_rfl) (by omega)
      have e1 : a'.eval (.tmp 58) = .int .u32 (ws.getD k 0) := hd 7 58 (by kernel_rfl) (by omega)
      refine XReg.val_ (v := .int .u32 ((((a + f) % 4294967296) + ws.getD k 0) % 4294967296)) (w1 := w') (by rw [hop]; intro c h; cases h) (by simp [Oper.about, hop]) ?_ ⟨_, rfl, Below.refl _ _, rfl⟩
      unfold execOp
      rw [hop]
      clear hr hd hB
      generalize a'.eval = ρ at e0 e1 ⊢
      go_simp
      rw [IntKind.wrap_u32]
      omega
    · obtain ⟨hop, hdst⟩ := XReg.op_is (x := .move (.tmp 11)) (d := some 60) ho (by kernel_rfl)
      have e0 := (hr 11 (by kernel_rfl)).trans h11
      refine XReg.val_ (v := .int .i64 i) (w1 := w') (by rw [hop]; intro c h; cases h) (by simp [Oper.about, hop]) ?_ ⟨_, rfl, Below.refl _ _, rfl⟩
      unfold execOp
      rw [hop]
      clear hr hd hB
      generalize a'.eval = ρ at e0 ⊢
      go_simp
    · obtain ⟨hop, hdst⟩ := XReg.op_is (x := .indexAddr 51 (.global 2) (.tmp 60)) (d := some 61) ho (by kernel_rfl)
      have e0 : a'.eval (.global 2) = .pointer (some ⟨2, 0, none⟩) := rfl
      have e1 : a'.eval (.tmp 60) = .int .i64 i := hd 9 60 (by kernel_rfl) (by omega)
      have hu51 := Tryd.underlying51
      have hi4z : (i : Int) < 64 := by omega
      refine XReg.val_ (v := .pointer (some ⟨2, i, none⟩)) (w1 := w') (by rw [hop]; intro c h; cases h) (by simp [Oper.about, hop]) ?_ ⟨_, rfl, Below.refl _ _, rfl⟩
      unfold execOp
      rw [hop]
      clear hr hd hB
      generalize a'.eval = ρ at e0 e1 ⊢
      go_simp
    · obtain ⟨hop, hdst⟩ := XReg.op_is (x := .load 23 (.tmp 61)) (d := some 62) ho (by kernel_rfl)
      have e0 : a'.eval (.tmp 61) = .pointer (some ⟨2, i, none⟩) := hd 10 61 (by kernel_rfl) (by omega)
      have hc : w'.cell? ⟨2, i, none⟩ = some (.int .u32 (sinesL.getD i 0)) := cg.s i hi64
      have hu23 := Tryd.underlying23
      refine XReg.val_ (v := .int .u32 (sinesL.getD i 0)) (w1 := w') (by rw [hop]; intro c h; cases h) (by simp [Oper.about, hop]) ?_ ⟨_, rfl, Below.refl _ _, rfl⟩
      unfold execOp
      rw [hop]
      clear hr hd hB
      clear cg gl
      generalize sinesL.getD i 0 = sn at hc ⊢
      generalize a'.eval = ρ at e0 ⊢
      go_simp
    · obtain ⟨hop, hdst⟩ := XReg.op_is (x := .binOp .add 23 (.tmp 59) (.tmp 62) 23) (d := some 63) ho (by kernel_rfl)
      have e0 : a'.eval (.tmp 59) = .int .u32 ((((a + f) % 4294967296) + ws.getD k 0) % 4294967296) := hd 8 59 (by kernel_rfl) (by omega)
      have e1 : a'.eval (.tmp 62) = .int .u32 (sinesL.getD i 0) := hd 11 62 (by kernel_rfl) (by omega)
      refine XReg.val_ (v := .int .u32 ((((((a + f) % 4294967296) + ws.getD k 0) % 4294967296) + sinesL.getD i 0) % 4294967296)) (w1 := w') (by rw [hop]; intro c h; cases h) (by simp [Oper.about, hop]) ?_ ⟨_, rfl, Below.refl _ _, rfl⟩
      unfold execOp
      rw [hop]
      clear hr hd hB
      generalize a'.eval = ρ at e0 e1 ⊢
      go_simp
      rw [IntKind.wrap_u32]
      omega
    · obtain ⟨hop, hdst⟩ := XReg.op_is (x := .move (.tmp 11)) (d := some 64) ho (by kernel_rfl)
      have e0 := (hr 11 (by kernel_rfl)).trans h11
      refine XReg.val_ (v := .int .i64 i) (w1 := w') (by rw [hop]; intro c h; cases h) (by simp [Oper.about, hop]) ?_ ⟨_, rfl, Below.refl _ _, rfl⟩
      unfold execOp
      rw [hop]
      clear hr hd hB
      generalize a'.eval = ρ at e0 ⊢
      go_simp
    · obtain ⟨hop, hdst⟩ := XReg.op_is (x := .binOp .quo 3 (.tmp 64) (.const (.int .i64 16)) 3) (d := some 65) ho (by kernel_rfl)
      have e0 : a'.eval (.tmp 64) = .int .i64 i := hd 13 64 (by kernel_rfl) (by omega)
      have e9 : a'.eval (.const (.int .i64 16)) = .int .i64 16 := rfl
      refine XReg.val_ (v := .int .i64 q) (w1 := w') (by rw [hop]; intro c h; cases h) (by simp [Oper.about, hop]) ?_ ⟨_, rfl, Below.refl _ _, rfl⟩
      unfold execOp
      rw [hop]
      clear hr hd hB
      generalize a'.eval = ρ at e0 e9 ⊢
      go_simp
      exact Go.IntWalk.i64_in (q : Int) (by omega)
    · obtain ⟨hop, hdst⟩ := XReg.op_is (x := .move (.tmp 11)) (d := some 66) ho (by kernel_rfl)
      have e0 := (hr 11 (by kernel_rfl)).trans h11
      refine XReg.val_ (v := .int .i64 i) (w1 := w') (by rw [hop]; intro c h; cases h) (by simp [Oper.about, hop]) ?_ ⟨_, rfl, Below.refl _ _, rfl⟩
      unfold execOp
      rw [hop]
      clear hr hd hB
      generalize a'.eval = ρ at e0 ⊢
      go_simp
    · obtain ⟨hop, hdst⟩ := XReg.op_is (x := .binOp .rem 3 (.tmp 66) (.const (.int .i64 4)) 3) (d := some 67) ho (by kernel_rfl)
      have e0 : a'.eval (.tmp 66) = .int .i64 i := hd 15 66 (by kernel_rfl) (by omega)
      have e9 : a'.eval (.const (.int .i64 4)) = .int .i64 4 := rfl
      refine XReg.val_ (v := .int .i64 m) (w1 := w') (by rw [hop]; intro c h; cases h) (by simp [Oper.about, hop]) ?_ ⟨_, rfl, Below.refl _ _, rfl⟩
      unfold execOp
      rw [hop]
      clear hr hd hB
      generalize a'.eval = ρ at e0 e9 ⊢
      go_simp
    · obtain ⟨hop, hdst⟩ := XReg.op_is (x := .indexAddr 60 (.global 3) (.tmp 65)) (d := some 68) ho (by kernel_rfl)
      have e0 : a'.eval (.global 3) = .pointer (some ⟨3, 0, none⟩) := rfl
      have e1 : a'.eval (.tmp 65) = .int .i64 q := hd 14 65 (by kernel_rfl) (by omega)
      have hu60 := Tryd.underlying60
      have hi4z : (q : Int) < 4 := by omega
      refine XReg.val_ (v := .pointer (some ⟨3, 4 * q, none⟩)) (w1 := w') (by rw [hop]; intro c h; cases h) (by simp [Oper.about, hop]) ?_ ⟨_, rfl, Below.refl _ _, rfl⟩
      unfold execOp
      rw [hop]
      clear hr hd hB
      generalize a'.eval = ρ at e0 e1 ⊢
      go_simp
    · obtain ⟨hop, hdst⟩ := XReg.op_is (x := .indexAddr 59 (.tmp 68) (.tmp 67)) (d := some 69) ho (by kernel_rfl)
      have e0 : a'.eval (.tmp 68) = .pointer (some ⟨3, 4 * q, none⟩) := hd 17 68 (by kernel_rfl) (by omega)
      have e1 : a'.eval (.tmp 67) = .int .i64 m := hd 16 67 (by kernel_rfl) (by omega)
      have hu59 := Tryd.underlying59
      have hi4z : (m : Int) < 4 := by omega
      refine XReg.val_ (v := .pointer (some ⟨3, 4 * q + m, none⟩)) (w1 := w') (by rw [hop]; intro c h; cases h) (by simp [Oper.about, hop]) ?_ ⟨_, rfl, Below.refl _ _, rfl⟩
      unfold execOp
      rw [hop]
      clear hr hd hB
      generalize a'.eval = ρ at e0 e1 ⊢
      go_simp
    · obtain ⟨hop, hdst⟩ := XReg.op_is (x := .load 3 (.tmp 69)) (d := some 70) ho (by kernel_rfl)
      have e0 : a'.eval (.tmp 69) = .pointer (some ⟨3, 4 * q + m, none⟩) := hd 18 69 (by kernel_rfl) (by omega)
      have hc : w'.cell? ⟨3, 4 * q + m, none⟩ = some (.int .i64 ((turnsL.getD (4 * q + m) 0 : Nat) : Int)) := cg.t (4 * q + m) (by omega)
      have hu3 := Tryd.underlying3
      refine XReg.val_ (v := .int .i64 ((turnsL.getD (4 * q + m) 0 : Nat) : Int)) (w1 := w') (by rw [hop]; intro c h; cases h) (by simp [Oper.about, hop]) ?_ ⟨_, rfl, Below.refl _ _, rfl⟩
      unfold execOp
      rw [hop]
      clear hr hd hB
      clear cg gl
      generalize turnsL.getD (4 * q + m) 0 = sn at hc ⊢
      generalize a'.eval = ρ at e0 ⊢
      go_simp
    · obtain ⟨hop, hdst⟩ := XReg.op_is (x := .call { callee := .value (.func 29), args := #[.tmp 63, .tmp 70], argTypes := #[23, 3] }) (d := some 71) ho (by kernel_rfl)
      have e0 : a'.eval (.tmp 63) = .int .u32 ((((((a + f) % 4294967296) + ws.getD k 0) % 4294967296) + sinesL.getD i 0) % 4294967296) := hd 12 63 (by kernel_rfl) (by omega)
      have e1 : a'.eval (.tmp 70) = .int .i64 ((turnsL.getD (4 * q + m) 0 : Nat) : Int) := hd 19 70 (by kernel_rfl) (by omega)
      refine XReg.call_ (ro := none) Tryd.func29 (by kernel_rfl) rfl #[.int .u32 ((((((a + f) % 4294967296) + ws.getD k 0) % 4294967296) + sinesL.getD i 0) % 4294967296), .int .i64 ((turnsL.getD (4 * q + m) 0 : Nat) : Int)] hop (by simp [e0, e1]) ?_
      refine (bits_RotateLeft32.calls _ _ _ w' (rot_eq _ _ (turn_lt _ (by omega)))).mono ?_
      rintro e w2 ⟨rfl, hb2⟩
      exact ⟨_, rfl, _, rfl, hb2.below, rfl⟩
    · obtain ⟨hop, hdst⟩ := XReg.op_is (x := .binOp .add 23 (.tmp 52) (.tmp 71) 23) (d := some 72) ho (by kernel_rfl)
      have e0 : a'.eval (.tmp 52) = .int .u32 b := hd 1 52 (by kernel_rfl) (by omega)
      have e1 : a'.eval (.tmp 71) = .int .u32 (rotF ((((((a + f) % 4294967296) + ws.getD k 0) % 4294967296) + sinesL.getD i 0) % 4294967296) (turnsL.getD (4 * q + m) 0)) := hd 20 71 (by kernel_rfl) (by omega)
      refine XReg.val_ (v := .int .u32 ((b + (rotF ((((((a + f) % 4294967296) + ws.getD k 0) % 4294967296) + sinesL.getD i 0) % 4294967296) (turnsL.getD (4 * q + m) 0))) % 4294967296)) (w1 := w') (by rw [hop]; intro c h; cases h) (by simp [Oper.about, hop]) ?_ ⟨_, rfl, Below.refl _ _, rfl⟩
      unfold execOp
      rw [hop]
      clear hr hd hB
      generalize a'.eval = ρ at e0 e1 ⊢
      go_simp
      rw [IntKind.wrap_u32]
    · obtain ⟨hop, hdst⟩ := XReg.op_is (x := .move (.tmp 8)) (d := some 73) ho (by kernel_rfl)
      have e0 := (hr 8 (by kernel_rfl)).trans h8
      refine XReg.val_ (v := .int .u32 b) (w1 := w') (by rw [hop]; intro c h; cases h) (by simp [Oper.about, hop]) ?_ ⟨_, rfl, Below.refl _ _, rfl⟩
      unfold execOp
      rw [hop]
      clear hr hd hB
      generalize a'.eval = ρ at e0 ⊢
      go_simp
    · obtain ⟨hop, hdst⟩ := XReg.op_is (x := .move (.tmp 9)) (d := some 74) ho (by kernel_rfl)
      have e0 := (hr 9 (by kernel_rfl)).trans h9
      refine XReg.val_ (v := .int .u32 c) (w1 := w') (by rw [hop]; intro c h; cases h) (by simp [Oper.about, hop]) ?_ ⟨_, rfl, Below.refl _ _, rfl⟩
      unfold execOp
      rw [hop]
      clear hr hd hB
      generalize a'.eval = ρ at e0 ⊢
      go_simp
    · obtain ⟨hop, hdst⟩ := XReg.op_is (x := .assign (.tmp 51)) (d := some 7) ho (by kernel_rfl)
      have e0 : a'.eval (.tmp 51) = .int .u32 d := hd 0 51 (by kernel_rfl) (by omega)
      refine XReg.val_ (v := .int .u32 d) (w1 := w') (by rw [hop]; intro c h; cases h) (by simp [Oper.about, hop]) ?_ ⟨_, rfl, Below.refl _ _, rfl⟩
      unfold execOp
      rw [hop]
      clear hr hd hB
      generalize a'.eval = ρ at e0 ⊢
      go_simp
  · intro o a' w' ho hB hdf hsz' hr hd
    have cw := blk_below bw hB
    have cg := gl.below hB
    have hfill := XReg.fill_eq [51, 52, 53, 54, 55, 56, 57, 58, 59, 60, 61, 62, 63, 64, 65, 66, 67, 68, 69, 70, 71, 72, 73, 74, 7] hsz' hdf (XReg.rest_of (ops := opsOf Tryd.f18 12) (m := 25) (by kernel_rfl) hr)
    obtain ⟨hop, hdst⟩ := XReg.op_is (x := .assign (.tmp 72)) (d := some 8) ho (by kernel_rfl)
    have e1 : a'.eval (.tmp 72) = .int .u32 ((b + (rotF ((((((a + f) % 4294967296) + ws.getD k 0) % 4294967296) + sinesL.getD i 0) % 4294967296) (turnsL.getD (4 * q + m) 0))) % 4294967296) := hd 21 72 (by kernel_rfl) (by omega)
    have e7 : a'.eval (.tmp 7) = .int .u32 d := hd 24 7 (by kernel_rfl) (by omega)
    have e73 : a'.eval (.tmp 73) = .int .u32 b := hd 22 73 (by kernel_rfl) (by omega)
    have e74 : a'.eval (.tmp 74) = .int .u32 c := hd 23 74 (by kernel_rfl) (by omega)
    refine XReg.val_ (v := .int .u32 ((b + (rotF ((((((a + f) % 4294967296) + ws.getD k 0) % 4294967296) + sinesL.getD i 0) % 4294967296) (turnsL.getD (4 * q + m) 0))) % 4294967296)) (w1 := w') (by rw [hop]; intro c h; cases h) (by simp [Oper.about, hop]) ?_ (by rw [hdst, hfill]; exact ⟨_, e7, e73, e74, hB, .inl ⟨rfl, rfl⟩⟩)
    unfold execOp
    rw [hop]
    clear hr hd hB hfill e7 e73 e74 cg gl
    generalize a'.eval = ρ at e1 ⊢
    go_simp
  · intro i o a' w' hi ho hT
    obtain ⟨u, e7, e73, e74, hB, hA⟩ := hT
    have hi28 : i < 28 := by
      have := (Array.getElem?_eq_some_iff.1 ho).1
      have hs : (opsOf Tryd.f18 12).size = 28 := by kernel_rfl
      omega
    have hcases : i = 26 ∨ i = 27 := by omega
    rcases hcases with rfl | rfl
    · rcases hA with ⟨_, rfl⟩ | ⟨e, _⟩ | ⟨e, _⟩
      case inr.inl => omega
      case inr.inr => omega
      obtain ⟨hop, hdst⟩ := XReg.op_is (x := .assign (.tmp 73)) (d := some 9) ho (by kernel_rfl)
      have e1 : ((XReg.fills u [51, 52, 53, 54, 55, 56, 57, 58, 59, 60, 61, 62, 63, 64, 65, 66, 67, 68, 69, 70, 71, 72, 73, 74, 7] act).put (some 8) (.int .u32 ((b + (rotF ((((((a + f) % 4294967296) + ws.getD k 0) % 4294967296) + sinesL.getD i 0) % 4294967296) (turnsL.getD (4 * q + m) 0))) % 4294967296))).eval (.tmp 73) = .int .u32 b := by
        rw [XReg.eval_put_other _ _ _ _ (by decide), XReg.fills_get _ _ _ _ (by rw [hsz0]; decide), if_pos (by decide)]
        exact e73
      refine XReg.val_ (v := .int .u32 b) (w1 := w') (by rw [hop]; intro c h; cases h) (by simp [Oper.about, hop]) ?_ (by rw [hdst]; exact ⟨u, e7, e73, e74, hB, .inr (.inl ⟨rfl, rfl⟩)⟩)
      unfold execOp
      rw [hop]
      generalize Act.eval _ = ρ at e1 ⊢
      go_simp
    · rcases hA with ⟨e, _⟩ | ⟨_, rfl⟩ | ⟨e, _⟩
      case inl => omega
      case inr.inr => omega
      obtain ⟨hop, hdst⟩ := XReg.op_is (x := .assign (.tmp 74)) (d := some 10) ho (by kernel_rfl)
      have e1 : (((XReg.fills u [51, 52, 53, 54, 55, 56, 57, 58, 59, 60, 61, 62, 63, 64, 65, 66, 67, 68, 69, 70, 71, 72, 73, 74, 7] act).put (some 8) (.int .u32 ((b + (rotF ((((((a + f) % 4294967296) + ws.getD k 0) % 4294967296) + sinesL.getD i 0) % 4294967296) (turnsL.getD (4 * q + m) 0))) % 4294967296))).put (some 9) (.int .u32 b)).eval (.tmp 74) = .int .u32 c := by
        rw [XReg.eval_put_other _ _ _ _ (by decide), XReg.eval_put_other _ _ _ _ (by decide), XReg.fills_get _ _ _ _ (by rw [hsz0]; decide), if_pos (by decide)]
        exact e74
      refine XReg.val_ (v := .int .u32 c) (w1 := w') (by rw [hop]; intro c h; cases h) (by simp [Oper.about, hop]) ?_ (by rw [hdst]; exact ⟨u, e7, e73, e74, hB, .inr (.inr ⟨rfl, rfl⟩)⟩)
      unfold execOp
      rw [hop]
      generalize Act.eval _ = ρ at e1 ⊢
      go_simp
  · intro a' w' hT
    obtain ⟨u, e7, e73, e74, hB, hA⟩ := hT
    rcases hA with ⟨e, _⟩ | ⟨e, _⟩ | ⟨_, rfl⟩
    · have hs : (opsOf Tryd.f18 12).size = 28 := by kernel_rfl
      omega
    · have hs : (opsOf Tryd.f18 12).size = 28 := by kernel_rfl
      omega
    · exact hK u w' e7 hB

end Go.Proofs.YtjpcokifadaedaaDoor.X
