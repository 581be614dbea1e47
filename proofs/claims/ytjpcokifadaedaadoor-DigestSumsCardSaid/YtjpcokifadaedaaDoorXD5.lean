import Derived.RangeFuncNested
import Derived.RangeFuncBound
import Derived.RangeFuncCalls
import Derived.RangeFuncLeaves
import Derived.Shelf.Abstract
import Derived.Shelf.RegionOpen
import Derived.WalkKit
import Derived.OwnWalkIn
import Derived.TacticsInMore
import Derived.LoopNIn
import Derived.LoopIn
import Derived.Lib.AppendZerosOnto
import Derived.Shelf.Spec.SlicesInsert
import Derived.Deep.RegionLaw
import Derived.WalkLawsBesides
import Derived.Recover
import Derived.Defers
import Derived.Test.YtjpcokifadaedaaDoorX0
import Derived.Test.YtjpcokifadaedaaDoorXOrow
import Derived.Outline
import Derived.Lib.Hide
import Derived.Laws.IdiomCopy
import Derived.Lib.SliceRun
import Derived.WalkSpells
import Derived.Test.YtjpcokifadaedaaDoorXD4
namespace Go.Proofs.YtjpcokifadaedaaDoor.X
open Go.RowKit Go.Proofs.YtjpcokifadaedaaDoorW.PrintWords Go.Proofs.YtjpcokifadaedaaDoorW.PrintLast Go.Proofs.YtjpcokifadaedaaDoorW.PrintMore
set_option linter.unusedVariables false
set_option linter.unusedSimpArgs false
/-! ### xor: the region that draws: by hand -/
def xorByteV (g i sz cap : Nat) (u b : ByteArray) : Nat → Value → World → Prop
  | 0, v, _ => v = .slice (some ⟨g, 0, none⟩) sz cap
  | 1, v, _ => v = .int .i64 i
  | 2, v, _ => v = .slice (some ⟨g, 0, none⟩) sz cap
  | 3, v, _ => v = .int .i64 i
  | 4, v, _ => v = .pointer (some ⟨g, i, none⟩)
  | 5, v, _ => v = .int .u8 ((bytesOf u).getD i 0)
  | 6, v, _ => v = .string b
  | 7, v, _ => v = .int .i64 i
  | 8, v, _ => v = .int .u8 ((bytesOf b).getD i 0)
  | 9, v, _ => v = .int .u8 (Go.bits .xor .u8 ((bytesOf u).getD i 0) ((bytesOf b).getD i 0))
  | 10, v, _ => v = .pointer (some ⟨g, i, none⟩)
  | _, _, _ => True
set_option maxHeartbeats 4000000 in
set_option maxRecDepth 100000 in
theorem xorByte (ops : Array Oper) (hops : ops = opsOf Tryd.f15 5) (id : Nat) (Q : Exit → Act → World → Prop) (act : Act) (w : World) (hsz0 : act.tmps.size = 28) (g i sz cap : Nat) (u b : ByteArray)
    (h1 : act.eval (.tmp 1) = .string b) (h5 : act.eval (.tmp 5) = .slice (some ⟨g, 0, none⟩) sz cap) (h6 : act.eval (.tmp 6) = .int .i64 i)
    (by_ : XByR.ByR 5 w g u) (hsz : u.size = sz) (hi1 : i < sz) (hi2 : i < b.size)
    (hK : ∀ (a2 : Tmp → Value) (W : World), XByR.ByR 5 W g (XByR.setB u i (Go.bits .xor .u8 ((bytesOf u).getD i 0) ((bytesOf b).getD i 0))) → (∀ n, n ≤ g → Below n w W) → Q .normal (XReg.fills a2 [15, 16, 17, 18, 19, 20, 21, 22, 23, 24, 25] act) W) :
    (Code.region id ops true).wp Tryd.prog Q act w := by
  subst hops
  refine (wpIn_wide (n := 9)).1 (XReg.region_runD (by kernel_rfl) 11 (by rw [hsz0]; kernel_rfl) (xorByteV g i sz cap u b)
    (fun w' => Below w.heap.size w w') ?_ (fun w1 w2 h1 h2 => below_step h1 h2) ((Below.refl _ w).drew) ?_ ?_)
  · intro i v w1 w2 hv hb
    match i, hv with
    | 0, hv | 1, hv | 2, hv | 3, hv | 4, hv | 5, hv | 6, hv | 7, hv | 8, hv | 9, hv | 10, hv => exact hv
    | _ + 11, _ => trivial
  · intro i o a' w' hi ho hB hdf hr hd
    have cb := by_.below hB
    have hcases : i = 0 ∨ i = 1 ∨ i = 2 ∨ i = 3 ∨ i = 4 ∨ i = 5 ∨ i = 6 ∨ i = 7 ∨ i = 8 ∨ i = 9 ∨ i = 10 := by omega
    rcases hcases with rfl | rfl | rfl | rfl | rfl | rfl | rfl | rfl | rfl | rfl | rfl
    · obtain ⟨hop, hdst⟩ := XReg.op_is (x := .move (.tmp 5)) (d := some 15) ho (by kernel_rfl)
      have e0 := (hr 5 (by kernel_rfl)).trans h5
      refine XReg.val_ (v := .slice (some ⟨g, 0, none⟩) sz cap) (w1 := w') (by rw [hop]; intro c h; cases h) (by simp [Oper.about, hop]) ?_ ⟨_, rfl, Below.refl _ _, rfl⟩
      unfold execOp
      rw [hop]
      clear hr hd hB
      generalize a'.eval = ρ at e0 ⊢
      go_simp
    · obtain ⟨hop, hdst⟩ := XReg.op_is (x := .move (.tmp 6)) (d := some 16) ho (by kernel_rfl)
      have e0 := (hr 6 (by kernel_rfl)).trans h6
      refine XReg.val_ (v := .int .i64 i) (w1 := w') (by rw [hop]; intro c h; cases h) (by simp [Oper.about, hop]) ?_ ⟨_, rfl, Below.refl _ _, rfl⟩
      unfold execOp
      rw [hop]
      clear hr hd hB
      generalize a'.eval = ρ at e0 ⊢
      go_simp
    · obtain ⟨hop, hdst⟩ := XReg.op_is (x := .move (.tmp 5)) (d := some 17) ho (by kernel_rfl)
      have e0 := (hr 5 (by kernel_rfl)).trans h5
      refine XReg.val_ (v := .slice (some ⟨g, 0, none⟩) sz cap) (w1 := w') (by rw [hop]; intro c h; cases h) (by simp [Oper.about, hop]) ?_ ⟨_, rfl, Below.refl _ _, rfl⟩
      unfold execOp
      rw [hop]
      clear hr hd hB
      generalize a'.eval = ρ at e0 ⊢
      go_simp
    · obtain ⟨hop, hdst⟩ := XReg.op_is (x := .move (.tmp 6)) (d := some 18) ho (by kernel_rfl)
      have e0 := (hr 6 (by kernel_rfl)).trans h6
      refine XReg.val_ (v := .int .i64 i) (w1 := w') (by rw [hop]; intro c h; cases h) (by simp [Oper.about, hop]) ?_ ⟨_, rfl, Below.refl _ _, rfl⟩
      unfold execOp
      rw [hop]
      clear hr hd hB
      generalize a'.eval = ρ at e0 ⊢
      go_simp
    · obtain ⟨hop, hdst⟩ := XReg.op_is (x := .indexAddr 31 (.tmp 17) (.tmp 18)) (d := some 19) ho (by kernel_rfl)
      have e0 : a'.eval (.tmp 17) = .slice (some ⟨g, 0, none⟩) sz cap := hd 2 17 (by kernel_rfl) (by omega)
      have e1 : a'.eval (.tmp 18) = .int .i64 i := hd 3 18 (by kernel_rfl) (by omega)
      have hu31 := Tryd.underlying31
      have hiz : (i : Int) < (sz : Int) := by omega
      refine XReg.val_ (v := .pointer (some ⟨g, i, none⟩)) (w1 := w') (by rw [hop]; intro c h; cases h) (by simp [Oper.about, hop]) ?_ ⟨_, rfl, Below.refl _ _, rfl⟩
      unfold execOp
      rw [hop]
      clear hr hd hB
      clear cb by_
      generalize a'.eval = ρ at e0 e1 ⊢
      go_simp
    · obtain ⟨hop, hdst⟩ := XReg.op_is (x := .load 5 (.tmp 19)) (d := some 20) ho (by kernel_rfl)
      have e0 : a'.eval (.tmp 19) = .pointer (some ⟨g, i, none⟩) := hd 4 19 (by kernel_rfl) (by omega)
      have hc := cb.cell i (by omega)
      have hu5 := Tryd.underlying5
      refine XReg.val_ (v := .int .u8 ((bytesOf u).getD i 0)) (w1 := w') (by rw [hop]; intro c h; cases h) (by simp [Oper.about, hop]) ?_ ⟨_, rfl, Below.refl _ _, rfl⟩
      unfold execOp
      rw [hop]
      clear hr hd hB
      clear cb by_
      generalize (bytesOf u).getD i 0 = cc at hc ⊢
      generalize a'.eval = ρ at e0 ⊢
      go_simp
    · obtain ⟨hop, hdst⟩ := XReg.op_is (x := .move (.tmp 1)) (d := some 21) ho (by kernel_rfl)
      have e0 := (hr 1 (by kernel_rfl)).trans h1
      refine XReg.val_ (v := .string b) (w1 := w') (by rw [hop]; intro c h; cases h) (by simp [Oper.about, hop]) ?_ ⟨_, rfl, Below.refl _ _, rfl⟩
      unfold execOp
      rw [hop]
      clear hr hd hB
      generalize a'.eval = ρ at e0 ⊢
      go_simp
    · obtain ⟨hop, hdst⟩ := XReg.op_is (x := .move (.tmp 6)) (d := some 22) ho (by kernel_rfl)
      have e0 := (hr 6 (by kernel_rfl)).trans h6
      refine XReg.val_ (v := .int .i64 i) (w1 := w') (by rw [hop]; intro c h; cases h) (by simp [Oper.about, hop]) ?_ ⟨_, rfl, Below.refl _ _, rfl⟩
      unfold execOp
      rw [hop]
      clear hr hd hB
      generalize a'.eval = ρ at e0 ⊢
      go_simp
    · obtain ⟨hop, hdst⟩ := XReg.op_is (x := .index 9 (.tmp 21) (.tmp 22)) (d := some 23) ho (by kernel_rfl)
      have e0 : a'.eval (.tmp 21) = .string b := hd 6 21 (by kernel_rfl) (by omega)
      have e1 : a'.eval (.tmp 22) = .int .i64 i := hd 7 22 (by kernel_rfl) (by omega)
      have hib : (i : Int) < (b.size : Int) := by omega
      have hu9 := Tryd.underlying9
      have hbg := byte_get b i hi2
      refine XReg.val_ (v := .int .u8 ((bytesOf b).getD i 0)) (w1 := w') (by rw [hop]; intro c h; cases h) (by simp [Oper.about, hop]) ?_ ⟨_, rfl, Below.refl _ _, rfl⟩
      unfold execOp
      rw [hop]
      clear hr hd hB
      clear cb by_
      generalize (bytesOf b).getD i 0 = cc at hbg ⊢
      generalize a'.eval = ρ at e0 e1 ⊢
      go_simp
    · obtain ⟨hop, hdst⟩ := XReg.op_is (x := .binOp .xor 5 (.tmp 20) (.tmp 23) 5) (d := some 24) ho (by kernel_rfl)
      have e0 : a'.eval (.tmp 20) = .int .u8 ((bytesOf u).getD i 0) := hd 5 20 (by kernel_rfl) (by omega)
      have e1 : a'.eval (.tmp 23) = .int .u8 ((bytesOf b).getD i 0) := hd 8 23 (by kernel_rfl) (by omega)
      refine XReg.val_ (v := .int .u8 (Go.bits .xor .u8 ((bytesOf u).getD i 0) ((bytesOf b).getD i 0))) (w1 := w') (by rw [hop]; intro c h; cases h) (by simp [Oper.about, hop]) ?_ ⟨_, rfl, Below.refl _ _, rfl⟩
      unfold execOp
      rw [hop]
      clear hr hd hB
      clear cb by_
      generalize (bytesOf b).getD i 0 = cc at e1 ⊢
      generalize (bytesOf u).getD i 0 = cd at e0 ⊢
      generalize a'.eval = ρ at e0 e1 ⊢
      go_simp
    · obtain ⟨hop, hdst⟩ := XReg.op_is (x := .indexAddr 31 (.tmp 15) (.tmp 16)) (d := some 25) ho (by kernel_rfl)
      have e0 : a'.eval (.tmp 15) = .slice (some ⟨g, 0, none⟩) sz cap := hd 0 15 (by kernel_rfl) (by omega)
      have e1 : a'.eval (.tmp 16) = .int .i64 i := hd 1 16 (by kernel_rfl) (by omega)
      have hu31 := Tryd.underlying31
      have hiz : (i : Int) < (sz : Int) := by omega
      refine XReg.val_ (v := .pointer (some ⟨g, i, none⟩)) (w1 := w') (by rw [hop]; intro c h; cases h) (by simp [Oper.about, hop]) ?_ ⟨_, rfl, Below.refl _ _, rfl⟩
      unfold execOp
      rw [hop]
      clear hr hd hB
      clear cb by_
      generalize a'.eval = ρ at e0 e1 ⊢
      go_simp
  · intro o a' w' ho hB hdf hsz' hr hd
    have cb := by_.below hB
    have hfill := XReg.fill_eq [15, 16, 17, 18, 19, 20, 21, 22, 23, 24, 25] hsz' hdf (XReg.rest_of (ops := opsOf Tryd.f15 5) (m := 11) (by kernel_rfl) hr)
    obtain ⟨hop, hdst⟩ := XReg.op_is (x := .store 5 (.tmp 25) (.tmp 24)) (d := none) ho (by kernel_rfl)
    have e0 : a'.eval (.tmp 25) = .pointer (some ⟨g, i, none⟩) := hd 10 25 (by kernel_rfl) (by omega)
    have e1 : a'.eval (.tmp 24) = .int .u8 (Go.bits .xor .u8 ((bytesOf u).getD i 0) ((bytesOf b).getD i 0)) := hd 9 24 (by kernel_rfl) (by omega)
    have hc := cb.cell i (by omega)
    have hfz := cb.frozen i (by omega)
    have hkk := hK (fun d => a'.eval (.tmp d)) (w'.setCell ⟨g, i, none⟩ (.int .u8 (Go.bits .xor .u8 ((bytesOf u).getD i 0) ((bytesOf b).getD i 0)))) (cb.set i (by omega) _ (u8_in _ _ _)) (fun n hn => (hB.mono (Nat.le_trans hn (Nat.le_of_lt by_.lt))).setCell hn _)
    rw [← hfill] at hkk
    refine XReg.skip_ (w1 := w'.setCell ⟨g, i, none⟩ (.int .u8 (Go.bits .xor .u8 ((bytesOf u).getD i 0) ((bytesOf b).getD i 0)))) (by rw [hop]; intro c h; cases h) (by simp [Oper.about, hop]) ?_ (by rw [hdst]; exact hkk)
    unfold execOp
    rw [hop]
    clear hr hd hB hfill hkk by_ cb
    have hu5 := Tryd.underlying5
    generalize (Go.bits .xor .u8 ((bytesOf u).getD i 0) ((bytesOf b).getD i 0)) = cv at e1 ⊢
    generalize a'.eval = ρ at e0 e1 ⊢
    generalize (bytesOf u).getD i 0 = cd at hc
    go_simp

/-! ### tenancylaw05_xor: function 15: by hand -/
def xorN (s b : ByteArray) : Nat → ByteArray
  | 0 => s
  | n + 1 => XByR.setB (xorN s b n) n (Go.bits .xor .u8 ((bytesOf (xorN s b n)).getD n 0) ((bytesOf b).getD n 0))
theorem xorN_size (s b : ByteArray) : ∀ n, (xorN s b n).size = s.size
  | 0 => rfl
  | n + 1 => by show (XByR.setB _ _ _).size = _; rw [XByR.size_setB]; exact xorN_size s b n
def tenancylaw05_xor.f (s b : ByteArray) : ByteArray := xorN s b s.size
set_option maxHeartbeats 4000000 in
set_option maxRecDepth 100000 in
theorem tenancylaw05_xor.calls (s b : ByteArray) (hs : s.size ≤ 140737488355328) (hsb : s.size ≤ b.size) (w : World) :
    Calls Tryd.prog 15 #[.string s, .string b] w fun e w' => e = .returned (.string (tenancylaw05_xor.f s b)) ∧ Below w.heap.size w w' := by
  have HZ := Aside0.mk hs
  have HSB := Aside0.mk hsb
  clear hs hsb
  go_enter Tryd.func15, Tryd.ntmps15
  go_upto_region 3 with ((with_reducible refine gate_dst (N := 8) rfl ?_); refine XRun.convL_ 8 rfl rfl 9 31 5 Tryd.underlying9 Tryd.underlying31 Tryd.underlying5 s rfl (by first | rfl | (go_simp; done) | (go_simp; rfl)) ?_; refine ⟨_, rfl, ?_⟩)
  have BY := Aside0.mk (XByR.ByR.new w 5 s)
  have HB := Aside0.mk (bytes_below (Below.refl _ w) (Nat.le_refl _) 5 s)
  generalize grownCap w s.size 0 5 = cc
  generalize Lib.bytesWorld w 5 s = wy at BY HB ⊢
  generalize hgy : w.heap.size = gy at BY ⊢
  go_loopg [6] s.size (fun gg s6 wr => ∃ (kk : Nat) (u : ByteArray), Aside0 (kk ≤ s.size ∧ s.size - kk ≤ gg) ∧ s6 = .int .i64 kk ∧ Aside0 (xorN s b kk = u) ∧ Aside0 (XByR.ByR 5 wr gy u) ∧ Aside0 (Below w.heap.size w wr))
  case atStart => exact ⟨0, s, ⟨Nat.zero_le _, Nat.le_refl _⟩, rfl, ⟨rfl⟩, BY, HB⟩
  case round =>
    clear BY HB
    obtain ⟨kk, u, HK, rfl, HU, BY, HB⟩ := hrel
    have hus : u.size = s.size := HU.out ▸ xorN_size s b kk
    by_cases hlt : kk < s.size
    · have hltz : (kk : Int) < (s.size : Int) := by omega
      have HLT := Aside0.mk hlt
      go_upto_region 5 with fail
      refine xorByte _ rfl _ _ _ _ (by kernel_rfl) gy kk s.size cc u b rfl rfl rfl BY.out hus hlt (Nat.lt_of_lt_of_le hlt HSB.out) ?_
      intro a2 W2 hby hbe
      have BY2 := Aside0.mk hby
      have HB2 := Aside0.mk (HB.out.trans (hbe _ (Nat.le_of_eq hgy)))
      have HU2 : Aside0 (xorN s b (kk + 1) = XByR.setB u kk (Go.bits .xor .u8 ((bytesOf u).getD kk 0) ((bytesOf b).getD kk 0))) := ⟨by show XByR.setB (xorN s b kk) kk (Go.bits .xor .u8 ((bytesOf (xorN s b kk)).getD kk 0) _) = _; rw [HU.out]⟩
      clear hby hbe hus
      simp only [XReg.fills, List.foldl_cons, List.foldl_nil, Act.put, List.setIfInBounds_toArray, List.set_cons_zero, List.set_cons_succ]
      go_wp2
      go_roundg (s.size - (kk + 1))
      case measure => have := HK.out; have := HLT.out; omega
      case rel => exact ⟨kk + 1, _, ⟨by have := HLT.out; omega, Nat.le_refl _⟩, by first | rfl | (rw [Go.IntWalk.wrap64_in _ (by have := HLT.out; have := HZ.out; omega)]; rfl), HU2, BY2, HB2⟩
    · obtain rfl : kk = s.size := by have := HK.out; omega
      have hltz : ¬ (s.size : Int) < (s.size : Int) := by omega
      have hcv := fun c => BY.out.text (P := Tryd.prog) 31 9 Tryd.underlying31 Tryd.underlying5 Tryd.underlying9 c
      rw [hus] at hcv
      go_wp2
      go_ret
      exact ⟨by rw [← HU.out]; rfl, hgy ▸ HB.out⟩

/-! ### tenancylaw05_DigestLinear: function 5: by hand -/
def crcV (s : ByteArray) : Int := Go.bits .xor .u32 4294967295 (crcL (bytesOf s) 4294967295)
theorem crc_val (s : ByteArray) (h : s.size ≤ 140737488355328) : digest_CRC.f s = some (crcV s) := by
  unfold digest_CRC.f
  rw [if_pos h]
  rfl
theorem xor_size (s b : ByteArray) : (tenancylaw05_xor.f s b).size = s.size := xorN_size s b s.size
def linP (a b c : ByteArray) : Prop := Go.bits .xor .u32 (Go.bits .xor .u32 (crcV a) (crcV b)) (crcV c) = crcV (tenancylaw05_xor.f (tenancylaw05_xor.f a b) c)
set_option maxHeartbeats 4000000 in
set_option maxRecDepth 100000 in
theorem tenancylaw05_DigestLinear.calls (a b c : ByteArray) (ha : a.size ≤ 140737488355328) (hb : b.size ≤ 140737488355328) (hc : c.size ≤ 140737488355328) (hP : ∀ x y z : ByteArray, x.size = y.size → y.size = z.size → linP x y z) (w : World) (gl : Glob w) :
    Calls Tryd.prog 5 #[.string a, .string b, .string c] w fun e w' => e = .returned (.bool true) ∧ Below w.heap.size w w' := by
  have GL := Aside0.mk gl
  have HP := Aside0.mk hP
  have HSZ := Aside0.mk (show a.size ≤ 140737488355328 ∧ b.size ≤ 140737488355328 ∧ c.size ≤ 140737488355328 from ⟨ha, hb, hc⟩)
  clear gl hP ha hb hc
  go_enter Tryd.func5, Tryd.ntmps5
  by_cases c1 : b.size < a.size
  · have d1 : (b.size : Int) < (a.size : Int) := by omega
    by_cases c2 : c.size < b.size
    · have d2 : (c.size : Int) < (b.size : Int) := by omega
      go_upto_region 8 with (go_at_call 8; refine (tenancylaw05_awake.calls _ GL.out).mono ?_; rintro e w1 ⟨rfl, hb⟩; have HB1 := Aside0.mk hb; clear hb)
      have hs0 : (a.extract 0 c.size).size = c.size := by rw [ByteArray.size_extract]; omega
      have hs1 : (b.extract 0 c.size).size = c.size := by rw [ByteArray.size_extract]; omega
      have hs2 : c.size = c.size := rfl
      have hn0 : (c.size : Int) ≤ (a.size : Int) := by omega
      have hn1 : (c.size : Int) ≤ (b.size : Int) := by omega
      have hn2 : (c.size : Int) ≤ (c.size : Int) := by omega
      have hln : c.size ≤ 140737488355328 := by have := HSZ.out; omega
      go_upto_region 11 with fail
      generalize hx : a.extract 0 c.size = x at hs0 ⊢
      generalize hy : b.extract 0 c.size = y at hs1 ⊢
      clear hx hy hn0 hn1 hn2
      have HS := Aside0.mk (show x.size ≤ 140737488355328 ∧ x.size = y.size ∧ y.size = c.size by omega)
      have HPx := Aside0.mk (HP.out x y c HS.out.2.1 HS.out.2.2)
      clear hs0 hs1 hs2 hln
      have hlin : Go.bits .xor .u32 (Go.bits .xor .u32 (crcV x) (crcV y)) (crcV c) = crcV (tenancylaw05_xor.f (tenancylaw05_xor.f x y) c) := HPx.out
      generalize hcx : crcV x = cx at hlin
      generalize hcy : crcV y = cy at hlin
      generalize hcz : crcV c = cz at hlin
      have HX1 := Aside0.mk (xor_size x y)
      have HX2 := Aside0.mk (xor_size (tenancylaw05_xor.f x y) c)
      generalize hxf1 : tenancylaw05_xor.f x y = x1 at HX1 HX2 hlin
      generalize hxf2 : tenancylaw05_xor.f x1 c = x2 at HX2 hlin
      generalize hcq : crcV x2 = cq at hlin
      have HC1 : Aside0 (digest_CRC.f x = some cx) := ⟨by rw [crc_val x HS.out.1, hcx]⟩
      have HC2 : Aside0 (digest_CRC.f y = some cy) := ⟨by rw [crc_val y (by have := HS.out; omega), hcy]⟩
      have HC3 : Aside0 (digest_CRC.f c = some cz) := ⟨by rw [crc_val c (by have := HS.out; omega), hcz]⟩
      have HC4 : Aside0 (digest_CRC.f x2 = some cq) := ⟨by rw [crc_val x2 (by have := HS.out; have := HX1.out; have := HX2.out; omega), hcq]⟩
      have HL1 : Aside0 (x.size ≤ y.size) := ⟨by have := HS.out; omega⟩
      have HL2 : Aside0 (x1.size ≤ 140737488355328 ∧ x1.size ≤ c.size) := ⟨by have := HS.out; have := HX1.out; omega⟩
      go_wp2_with (first
        | (go_at_call 9; with_reducible refine (digest_CRC.calls x cx w1 HC1.out).mono ?_; rintro e w2 ⟨rfl, hb⟩; have HB2 := Aside0.mk (below_step HB1.out hb); clear hb)
        | (go_at_call 9; with_reducible refine (digest_CRC.calls y cy w2 HC2.out).mono ?_; rintro e w3 ⟨rfl, hb⟩; have HB3 := Aside0.mk (below_step HB2.out hb); clear hb)
        | (go_at_call 9; with_reducible refine (digest_CRC.calls c cz w3 HC3.out).mono ?_; rintro e w4 ⟨rfl, hb⟩; have HB4 := Aside0.mk (below_step HB3.out hb); clear hb)
        | (go_at_call 15; with_reducible refine (tenancylaw05_xor.calls x y HS.out.1 HL1.out w4).mono ?_; rintro e w5 ⟨rfl, hb⟩; rw [hxf1]; have HB5 := Aside0.mk (below_step HB4.out hb); clear hb)
        | (go_at_call 15; with_reducible refine (tenancylaw05_xor.calls x1 c HL2.out.1 HL2.out.2 w5).mono ?_; rintro e w6 ⟨rfl, hb⟩; rw [hxf2]; have HB6 := Aside0.mk (below_step HB5.out hb); clear hb)
        | (go_at_call 9; with_reducible refine (digest_CRC.calls x2 cq w6 HC4.out).mono ?_; rintro e w7 ⟨rfl, hb⟩; have HB7 := Aside0.mk (below_step HB6.out hb); clear hb))
      go_ret
      exact ⟨by simp [hlin], HB7.out⟩
    · have d2 : ¬ (c.size : Int) < (b.size : Int) := by omega
      go_upto_region 8 with (go_at_call 8; refine (tenancylaw05_awake.calls _ GL.out).mono ?_; rintro e w1 ⟨rfl, hb⟩; have HB1 := Aside0.mk hb; clear hb)
      have hs0 : (a.extract 0 b.size).size = b.size := by rw [ByteArray.size_extract]; omega
      have hs1 : b.size = b.size := rfl
      have hs2 : (c.extract 0 b.size).size = b.size := by rw [ByteArray.size_extract]; omega
      have hn0 : (b.size : Int) ≤ (a.size : Int) := by omega
      have hn1 : (b.size : Int) ≤ (b.size : Int) := by omega
      have hn2 : (b.size : Int) ≤ (c.size : Int) := by omega
      have hln : b.size ≤ 140737488355328 := by have := HSZ.out; omega
      go_upto_region 11 with fail
      generalize hx : a.extract 0 b.size = x at hs0 ⊢
      generalize hz : c.extract 0 b.size = z at hs2 ⊢
      clear hx hz hn0 hn1 hn2
      have HS := Aside0.mk (show x.size ≤ 140737488355328 ∧ x.size = b.size ∧ b.size = z.size by omega)
      have HPx := Aside0.mk (HP.out x b z HS.out.2.1 HS.out.2.2)
      clear hs0 hs1 hs2 hln
      have hlin : Go.bits .xor .u32 (Go.bits .xor .u32 (crcV x) (crcV b)) (crcV z) = crcV (tenancylaw05_xor.f (tenancylaw05_xor.f x b) z) := HPx.out
      generalize hcx : crcV x = cx at hlin
      generalize hcy : crcV b = cy at hlin
      generalize hcz : crcV z = cz at hlin
      have HX1 := Aside0.mk (xor_size x b)
      have HX2 := Aside0.mk (xor_size (tenancylaw05_xor.f x b) z)
      generalize hxf1 : tenancylaw05_xor.f x b = x1 at HX1 HX2 hlin
      generalize hxf2 : tenancylaw05_xor.f x1 z = x2 at HX2 hlin
      generalize hcq : crcV x2 = cq at hlin
      have HC1 : Aside0 (digest_CRC.f x = some cx) := ⟨by rw [crc_val x HS.out.1, hcx]⟩
      have HC2 : Aside0 (digest_CRC.f b = some cy) := ⟨by rw [crc_val b (by have := HS.out; omega), hcy]⟩
      have HC3 : Aside0 (digest_CRC.f z = some cz) := ⟨by rw [crc_val z (by have := HS.out; omega), hcz]⟩
      have HC4 : Aside0 (digest_CRC.f x2 = some cq) := ⟨by rw [crc_val x2 (by have := HS.out; have := HX1.out; have := HX2.out; omega), hcq]⟩
      have HL1 : Aside0 (x.size ≤ b.size) := ⟨by have := HS.out; omega⟩
      have HL2 : Aside0 (x1.size ≤ 140737488355328 ∧ x1.size ≤ z.size) := ⟨by have := HS.out; have := HX1.out; omega⟩
      go_wp2_with (first
        | (go_at_call 9; with_reducible refine (digest_CRC.calls x cx w1 HC1.out).mono ?_; rintro e w2 ⟨rfl, hb⟩; have HB2 := Aside0.mk (below_step HB1.out hb); clear hb)
        | (go_at_call 9; with_reducible refine (digest_CRC.calls b cy w2 HC2.out).mono ?_; rintro e w3 ⟨rfl, hb⟩; have HB3 := Aside0.mk (below_step HB2.out hb); clear hb)
        | (go_at_call 9; with_reducible refine (digest_CRC.calls z cz w3 HC3.out).mono ?_; rintro e w4 ⟨rfl, hb⟩; have HB4 := Aside0.mk (below_step HB3.out hb); clear hb)
        | (go_at_call 15; with_reducible refine (tenancylaw05_xor.calls x b HS.out.1 HL1.out w4).mono ?_; rintro e w5 ⟨rfl, hb⟩; rw [hxf1]; have HB5 := Aside0.mk (below_step HB4.out hb); clear hb)
        | (go_at_call 15; with_reducible refine (tenancylaw05_xor.calls x1 z HL2.out.1 HL2.out.2 w5).mono ?_; rintro e w6 ⟨rfl, hb⟩; rw [hxf2]; have HB6 := Aside0.mk (below_step HB5.out hb); clear hb)
        | (go_at_call 9; with_reducible refine (digest_CRC.calls x2 cq w6 HC4.out).mono ?_; rintro e w7 ⟨rfl, hb⟩; have HB7 := Aside0.mk (below_step HB6.out hb); clear hb))
      go_ret
      exact ⟨by simp [hlin], HB7.out⟩
  · have d1 : ¬ (b.size : Int) < (a.size : Int) := by omega
    by_cases c2 : c.size < a.size
    · have d2 : (c.size : Int) < (a.size : Int) := by omega
      go_upto_region 8 with (go_at_call 8; refine (tenancylaw05_awake.calls _ GL.out).mono ?_; rintro e w1 ⟨rfl, hb⟩; have HB1 := Aside0.mk hb; clear hb)
      have hs0 : (a.extract 0 c.size).size = c.size := by rw [ByteArray.size_extract]; omega
      have hs1 : (b.extract 0 c.size).size = c.size := by rw [ByteArray.size_extract]; omega
      have hs2 : c.size = c.size := rfl
      have hn0 : (c.size : Int) ≤ (a.size : Int) := by omega
      have hn1 : (c.size : Int) ≤ (b.size : Int) := by omega
      have hn2 : (c.size : Int) ≤ (c.size : Int) := by omega
      have hln : c.size ≤ 140737488355328 := by have := HSZ.out; omega
      go_upto_region 11 with fail
      generalize hx : a.extract 0 c.size = x at hs0 ⊢
      generalize hy : b.extract 0 c.size = y at hs1 ⊢
      clear hx hy hn0 hn1 hn2
      have HS := Aside0.mk (show x.size ≤ 140737488355328 ∧ x.size = y.size ∧ y.size = c.size by omega)
      have HPx := Aside0.mk (HP.out x y c HS.out.2.1 HS.out.2.2)
      clear hs0 hs1 hs2 hln
      have hlin : Go.bits .xor .u32 (Go.bits .xor .u32 (crcV x) (crcV y)) (crcV c) = crcV (tenancylaw05_xor.f (tenancylaw05_xor.f x y) c) := HPx.out
      generalize hcx : crcV x = cx at hlin
      generalize hcy : crcV y = cy at hlin
      generalize hcz : crcV c = cz at hlin
      have HX1 := Aside0.mk (xor_size x y)
      have HX2 := Aside0.mk (xor_size (tenancylaw05_xor.f x y) c)
      generalize hxf1 : tenancylaw05_xor.f x y = x1 at HX1 HX2 hlin
      generalize hxf2 : tenancylaw05_xor.f x1 c = x2 at HX2 hlin
      generalize hcq : crcV x2 = cq at hlin
      have HC1 : Aside0 (digest_CRC.f x = some cx) := ⟨by rw [crc_val x HS.out.1, hcx]⟩
      have HC2 : Aside0 (digest_CRC.f y = some cy) := ⟨by rw [crc_val y (by have := HS.out; omega), hcy]⟩
      have HC3 : Aside0 (digest_CRC.f c = some cz) := ⟨by rw [crc_val c (by have := HS.out; omega), hcz]⟩
      have HC4 : Aside0 (digest_CRC.f x2 = some cq) := ⟨by rw [crc_val x2 (by have := HS.out; have := HX1.out; have := HX2.out; omega), hcq]⟩
      have HL1 : Aside0 (x.size ≤ y.size) := ⟨by have := HS.out; omega⟩
      have HL2 : Aside0 (x1.size ≤ 140737488355328 ∧ x1.size ≤ c.size) := ⟨by have := HS.out; have := HX1.out; omega⟩
      go_wp2_with (first
        | (go_at_call 9; with_reducible refine (digest_CRC.calls x cx w1 HC1.out).mono ?_; rintro e w2 ⟨rfl, hb⟩; have HB2 := Aside0.mk (below_step HB1.out hb); clear hb)
        | (go_at_call 9; with_reducible refine (digest_CRC.calls y cy w2 HC2.out).mono ?_; rintro e w3 ⟨rfl, hb⟩; have HB3 := Aside0.mk (below_step HB2.out hb); clear hb)
        | (go_at_call 9; with_reducible refine (digest_CRC.calls c cz w3 HC3.out).mono ?_; rintro e w4 ⟨rfl, hb⟩; have HB4 := Aside0.mk (below_step HB3.out hb); clear hb)
        | (go_at_call 15; with_reducible refine (tenancylaw05_xor.calls x y HS.out.1 HL1.out w4).mono ?_; rintro e w5 ⟨rfl, hb⟩; rw [hxf1]; have HB5 := Aside0.mk (below_step HB4.out hb); clear hb)
        | (go_at_call 15; with_reducible refine (tenancylaw05_xor.calls x1 c HL2.out.1 HL2.out.2 w5).mono ?_; rintro e w6 ⟨rfl, hb⟩; rw [hxf2]; have HB6 := Aside0.mk (below_step HB5.out hb); clear hb)
        | (go_at_call 9; with_reducible refine (digest_CRC.calls x2 cq w6 HC4.out).mono ?_; rintro e w7 ⟨rfl, hb⟩; have HB7 := Aside0.mk (below_step HB6.out hb); clear hb))
      go_ret
      exact ⟨by simp [hlin], HB7.out⟩
    · have d2 : ¬ (c.size : Int) < (a.size : Int) := by omega
      go_upto_region 8 with (go_at_call 8; refine (tenancylaw05_awake.calls _ GL.out).mono ?_; rintro e w1 ⟨rfl, hb⟩; have HB1 := Aside0.mk hb; clear hb)
      have hs0 : a.size = a.size := rfl
      have hs1 : (b.extract 0 a.size).size = a.size := by rw [ByteArray.size_extract]; omega
      have hs2 : (c.extract 0 a.size).size = a.size := by rw [ByteArray.size_extract]; omega
      have hn0 : (a.size : Int) ≤ (a.size : Int) := by omega
      have hn1 : (a.size : Int) ≤ (b.size : Int) := by omega
      have hn2 : (a.size : Int) ≤ (c.size : Int) := by omega
      have hln : a.size ≤ 140737488355328 := by have := HSZ.out; omega
      go_upto_region 11 with fail
      generalize hy : b.extract 0 a.size = y at hs1 ⊢
      generalize hz : c.extract 0 a.size = z at hs2 ⊢
      clear hy hz hn0 hn1 hn2
      have HS := Aside0.mk (show a.size ≤ 140737488355328 ∧ a.size = y.size ∧ y.size = z.size by omega)
      have HPx := Aside0.mk (HP.out a y z HS.out.2.1 HS.out.2.2)
      clear hs0 hs1 hs2 hln
      have hlin : Go.bits .xor .u32 (Go.bits .xor .u32 (crcV a) (crcV y)) (crcV z) = crcV (tenancylaw05_xor.f (tenancylaw05_xor.f a y) z) := HPx.out
      generalize hcx : crcV a = cx at hlin
      generalize hcy : crcV y = cy at hlin
      generalize hcz : crcV z = cz at hlin
      have HX1 := Aside0.mk (xor_size a y)
      have HX2 := Aside0.mk (xor_size (tenancylaw05_xor.f a y) z)
      generalize hxf1 : tenancylaw05_xor.f a y = x1 at HX1 HX2 hlin
      generalize hxf2 : tenancylaw05_xor.f x1 z = x2 at HX2 hlin
      generalize hcq : crcV x2 = cq at hlin
      have HC1 : Aside0 (digest_CRC.f a = some cx) := ⟨by rw [crc_val a HS.out.1, hcx]⟩
      have HC2 : Aside0 (digest_CRC.f y = some cy) := ⟨by rw [crc_val y (by have := HS.out; omega), hcy]⟩
      have HC3 : Aside0 (digest_CRC.f z = some cz) := ⟨by rw [crc_val z (by have := HS.out; omega), hcz]⟩
      have HC4 : Aside0 (digest_CRC.f x2 = some cq) := ⟨by rw [crc_val x2 (by have := HS.out; have := HX1.out; have := HX2.out; omega), hcq]⟩
      have HL1 : Aside0 (a.size ≤ y.size) := ⟨by have := HS.out; omega⟩
      have HL2 : Aside0 (x1.size ≤ 140737488355328 ∧ x1.size ≤ z.size) := ⟨by have := HS.out; have := HX1.out; omega⟩
      go_wp2_with (first
        | (go_at_call 9; with_reducible refine (digest_CRC.calls a cx w1 HC1.out).mono ?_; rintro e w2 ⟨rfl, hb⟩; have HB2 := Aside0.mk (below_step HB1.out hb); clear hb)
        | (go_at_call 9; with_reducible refine (digest_CRC.calls y cy w2 HC2.out).mono ?_; rintro e w3 ⟨rfl, hb⟩; have HB3 := Aside0.mk (below_step HB2.out hb); clear hb)
        | (go_at_call 9; with_reducible refine (digest_CRC.calls z cz w3 HC3.out).mono ?_; rintro e w4 ⟨rfl, hb⟩; have HB4 := Aside0.mk (below_step HB3.out hb); clear hb)
        | (go_at_call 15; with_reducible refine (tenancylaw05_xor.calls a y HS.out.1 HL1.out w4).mono ?_; rintro e w5 ⟨rfl, hb⟩; rw [hxf1]; have HB5 := Aside0.mk (below_step HB4.out hb); clear hb)
        | (go_at_call 15; with_reducible refine (tenancylaw05_xor.calls x1 z HL2.out.1 HL2.out.2 w5).mono ?_; rintro e w6 ⟨rfl, hb⟩; rw [hxf2]; have HB6 := Aside0.mk (below_step HB5.out hb); clear hb)
        | (go_at_call 9; with_reducible refine (digest_CRC.calls x2 cq w6 HC4.out).mono ?_; rintro e w7 ⟨rfl, hb⟩; have HB7 := Aside0.mk (below_step HB6.out hb); clear hb))
      go_ret
      exact ⟨by simp [hlin], HB7.out⟩

end Go.Proofs.YtjpcokifadaedaaDoor.X
