import Derived.RangeFuncNested
import Derived.RangeFuncBound
import Derived.RangeFuncCalls
import Derived.RangeFuncLeaves
import Derived.Shelf.Abstract
import Derived.Shelf.RegionOpen
import Derived.WalkKit
import Derived.OwnWalkIn
import Derived.TacticsInMore
import Derived.LoopNIn
import Derived.LoopIn
import Derived.Lib.AppendZerosOnto
import Derived.Shelf.Spec.SlicesInsert
import Derived.Deep.RegionLaw
import Derived.WalkLawsBesides
import Derived.Recover
import Derived.Defers
import Derived.Test.YtjpcokifadaedaaDoorX0
import Derived.Test.YtjpcokifadaedaaDoorXOrow
import Derived.Outline
import Derived.Lib.Hide
import Derived.Laws.IdiomCopy
import Derived.Lib.SliceRun
import Derived.WalkSpells
import Derived.Test.YtjpcokifadaedaaDoorXD9
namespace Go.Proofs.YtjpcokifadaedaaDoor.X
open Go.RowKit Go.Proofs.YtjpcokifadaedaaDoorW.PrintWords Go.Proofs.YtjpcokifadaedaaDoorW.PrintLast Go.Proofs.YtjpcokifadaedaaDoorW.PrintMore
set_option linter.unusedVariables false
set_option linter.unusedSimpArgs false
/-! ### tenancyref05.HMAC: the region that draws: by hand -/
theorem rmd5_size (s : ByteArray) : (tenancyref05_MD5.f s).size = 16 := rout_size _ 4
def refHmV (gi ci g_o co : Nat) (ui uo s : ByteArray) : Nat → Value → World → Prop
  | 0, v, _ => v = .slice (some ⟨g_o, 0, none⟩) uo.size co
  | 1, v, _ => v = .string uo
  | 2, v, _ => v = .slice (some ⟨gi, 0, none⟩) ui.size ci
  | 3, v, _ => v = .string ui
  | 4, v, _ => v = .string s
  | 5, v, _ => v = .string (ui ++ s)
  | 6, v, _ => v = .string (tenancyref05_MD5.f (ui ++ s))
  | 7, v, _ => v = .string (uo ++ tenancyref05_MD5.f (ui ++ s))
  | 8, v, _ => v = .string (tenancyref05_MD5.f (uo ++ tenancyref05_MD5.f (ui ++ s)))
  | _, _, _ => True
set_option maxHeartbeats 4000000 in
set_option maxRecDepth 100000 in
theorem refHm (ops : Array Oper) (hops : ops = opsOf Tryd.f14 13) (id : Nat) (Q : Exit → Act → World → Prop) (act : Act) (w : World) (hsz0 : act.tmps.size = 53) (gi ci g_o co gy : Nat) (ui uo s : ByteArray)
    (h7 : act.eval (.tmp 7) = .slice (some ⟨g_o, 0, none⟩) uo.size co) (h6 : act.eval (.tmp 6) = .slice (some ⟨gi, 0, none⟩) ui.size ci) (h1 : act.eval (.tmp 1) = .string s) (bi : XAp.BRow 5 w gy (.slice (some ⟨gi, 0, none⟩) ui.size ci) ui) (bo : XAp.BRow 5 w gy (.slice (some ⟨g_o, 0, none⟩) uo.size co) uo) (gl : RGlob w) (hz : Aside0 (ui.size = 64 ∧ uo.size = 64 ∧ s.size ≤ 140737488354000))
    (hK : ∀ (u : Tmp → Value) (W : World), Below w.heap.size w W → Q .normal ((XReg.fills u [44, 45, 46, 47, 48, 49, 50, 51, 52] act).put (some 4) (.string (tenancyref05_MD5.f (uo ++ tenancyref05_MD5.f (ui ++ s))))) W) :
    (Code.region id ops true).wp Tryd.prog Q act w := by
  subst hops
  refine (wpIn_wide (n := 9)).1 (XReg.region_runD (by kernel_rfl) 9 (by rw [hsz0]; kernel_rfl) (refHmV gi ci g_o co ui uo s)
    (fun w' => Below w.heap.size w w') ?_ (fun w1 w2 h1 h2 => below_step h1 h2) ((Below.refl _ w).drew) ?_ ?_)
  · intro i v w1 w2 hv hb
    match i, hv with
    | 0, hv | 1, hv | 2, hv | 3, hv | 4, hv | 5, hv | 6, hv | 7, hv | 8, hv => exact hv
    | _ + 9, _ => trivial
  · intro i o a' w' hi ho hB hdf hr hd
    have qi := bi.below hB
    have qo := bo.below hB
    have cg := gl.below hB
    have hcases : i = 0 ∨ i = 1 ∨ i = 2 ∨ i = 3 ∨ i = 4 ∨ i = 5 ∨ i = 6 ∨ i = 7 ∨ i = 8 := by omega
    rcases hcases with rfl | rfl | rfl | rfl | rfl | rfl | rfl | rfl | rfl
    · obtain ⟨hop, hdst⟩ := XReg.op_is (x := .move (.tmp 7)) (d := some 44) ho (by kernel_rfl)
      have e0 := (hr 7 (by kernel_rfl)).trans h7
      refine XReg.val_ (v := .slice (some ⟨g_o, 0, none⟩) uo.size co) (w1 := w') (by rw [hop]; intro c h; cases h) (by simp [Oper.about, hop]) ?_ ⟨_, rfl, Below.refl _ _, rfl⟩
      unfold execOp
      rw [hop]
      clear hr hd hB
      generalize a'.eval = ρ at e0 ⊢
      go_simp
    · obtain ⟨hop, hdst⟩ := XReg.op_is (x := .convert 31 9 (.tmp 44)) (d := some 45) ho (by kernel_rfl)
      have e0 : a'.eval (.tmp 44) = .slice (some ⟨g_o, 0, none⟩) uo.size co := hd 0 44 (by kernel_rfl) (by omega)
      have hcv := qo.text (P := Tryd.prog) 31 9 Tryd.underlying31 Tryd.underlying5 Tryd.underlying9
      refine XReg.val_ (v := .string uo) (w1 := w') (by rw [hop]; intro c h; cases h) (by simp [Oper.about, hop]) ?_ ⟨_, rfl, Below.refl _ _, rfl⟩
      unfold execOp
      rw [hop]
      clear hr hd hB
      clear qi qo cg gl bi bo
      generalize a'.eval = ρ at e0 ⊢
      go_simp
    · obtain ⟨hop, hdst⟩ := XReg.op_is (x := .move (.tmp 6)) (d := some 46) ho (by kernel_rfl)
      have e0 := (hr 6 (by kernel_rfl)).trans h6
      refine XReg.val_ (v := .slice (some ⟨gi, 0, none⟩) ui.size ci) (w1 := w') (by rw [hop]; intro c h; cases h) (by simp [Oper.about, hop]) ?_ ⟨_, rfl, Below.refl _ _, rfl⟩
      unfold execOp
      rw [hop]
      clear hr hd hB
      generalize a'.eval = ρ at e0 ⊢
      go_simp
    · obtain ⟨hop, hdst⟩ := XReg.op_is (x := .convert 31 9 (.tmp 46)) (d := some 47) ho (by kernel_rfl)
      have e0 : a'.eval (.tmp 46) = .slice (some ⟨gi, 0, none⟩) ui.size ci := hd 2 46 (by kernel_rfl) (by omega)
      have hcv := qi.text (P := Tryd.prog) 31 9 Tryd.underlying31 Tryd.underlying5 Tryd.underlying9
      refine XReg.val_ (v := .string ui) (w1 := w') (by rw [hop]; intro c h; cases h) (by simp [Oper.about, hop]) ?_ ⟨_, rfl, Below.refl _ _, rfl⟩
      unfold execOp
      rw [hop]
      clear hr hd hB
      clear qi qo cg gl bi bo
      generalize a'.eval = ρ at e0 ⊢
      go_simp
    · obtain ⟨hop, hdst⟩ := XReg.op_is (x := .move (.tmp 1)) (d := some 48) ho (by kernel_rfl)
      have e0 := (hr 1 (by kernel_rfl)).trans h1
      refine XReg.val_ (v := .string s) (w1 := w') (by rw [hop]; intro c h; cases h) (by simp [Oper.about, hop]) ?_ ⟨_, rfl, Below.refl _ _, rfl⟩
      unfold execOp
      rw [hop]
      clear hr hd hB
      generalize a'.eval = ρ at e0 ⊢
      go_simp
    · obtain ⟨hop, hdst⟩ := XReg.op_is (x := .binOp .add 9 (.tmp 47) (.tmp 48) 9) (d := some 49) ho (by kernel_rfl)
      have e0 : a'.eval (.tmp 47) = .string ui := hd 3 47 (by kernel_rfl) (by omega)
      have e1 : a'.eval (.tmp 48) = .string s := hd 4 48 (by kernel_rfl) (by omega)
      have hu0 := Tryd.underlying9
      refine XReg.val_ (v := .string (ui ++ s)) (w1 := w') (by rw [hop]; intro c h; cases h) (by simp [Oper.about, hop]) ?_ ⟨_, rfl, Below.refl _ _, rfl⟩
      unfold execOp
      rw [hop]
      clear hr hd hB
      have hs : (ui).size + (s).size ≤ 9223372036854775807 := by have := hz.out; omega
      generalize a'.eval = ρ at e0 e1 ⊢
      go_simp
    · obtain ⟨hop, hdst⟩ := XReg.op_is (x := .call { callee := .value (.func 12), args := #[.tmp 49], argTypes := #[9] }) (d := some 50) ho (by kernel_rfl)
      have e0 : a'.eval (.tmp 49) = .string (ui ++ s) := hd 5 49 (by kernel_rfl) (by omega)
      refine XReg.call_ (ro := none) Tryd.func12 (by kernel_rfl) rfl #[.string (ui ++ s)] hop (by simp [e0]) ?_
      refine (tenancyref05_MD5.calls (ui ++ s) (by rw [ByteArray.size_append]; have := hz.out; omega) w' cg).mono ?_
      rintro e w2 ⟨rfl, hb2⟩
      exact ⟨_, rfl, _, rfl, hb2, rfl⟩
    · obtain ⟨hop, hdst⟩ := XReg.op_is (x := .binOp .add 9 (.tmp 45) (.tmp 50) 9) (d := some 51) ho (by kernel_rfl)
      have e0 : a'.eval (.tmp 45) = .string uo := hd 1 45 (by kernel_rfl) (by omega)
      have e1 : a'.eval (.tmp 50) = .string (tenancyref05_MD5.f (ui ++ s)) := hd 6 50 (by kernel_rfl) (by omega)
      have hu0 := Tryd.underlying9
      refine XReg.val_ (v := .string (uo ++ tenancyref05_MD5.f (ui ++ s))) (w1 := w') (by rw [hop]; intro c h; cases h) (by simp [Oper.about, hop]) ?_ ⟨_, rfl, Below.refl _ _, rfl⟩
      unfold execOp
      rw [hop]
      clear hr hd hB
      have hs : (uo).size + (tenancyref05_MD5.f (ui ++ s)).size ≤ 9223372036854775807 := by rw [rmd5_size]; have := hz.out; omega
      generalize a'.eval = ρ at e0 e1 ⊢
      go_simp
    · obtain ⟨hop, hdst⟩ := XReg.op_is (x := .call { callee := .value (.func 12), args := #[.tmp 51], argTypes := #[9] }) (d := some 52) ho (by kernel_rfl)
      have e0 : a'.eval (.tmp 51) = .string (uo ++ tenancyref05_MD5.f (ui ++ s)) := hd 7 51 (by kernel_rfl) (by omega)
      refine XReg.call_ (ro := none) Tryd.func12 (by kernel_rfl) rfl #[.string (uo ++ tenancyref05_MD5.f (ui ++ s))] hop (by simp [e0]) ?_
      refine (tenancyref05_MD5.calls (uo ++ tenancyref05_MD5.f (ui ++ s)) (by rw [ByteArray.size_append, rmd5_size]; have := hz.out; omega) w' cg).mono ?_
      rintro e w2 ⟨rfl, hb2⟩
      exact ⟨_, rfl, _, rfl, hb2, rfl⟩
  · intro o a' w' ho hB hdf hsz' hr hd
    have qi := bi.below hB
    have qo := bo.below hB
    have cg := gl.below hB
    have hfill := XReg.fill_eq [44, 45, 46, 47, 48, 49, 50, 51, 52] hsz' hdf (XReg.rest_of (ops := opsOf Tryd.f14 13) (m := 9) (by kernel_rfl) hr)
    obtain ⟨hop, hdst⟩ := XReg.op_is (x := .assign (.tmp 52)) (d := some 4) ho (by kernel_rfl)
    have e1 : a'.eval (.tmp 52) = .string (tenancyref05_MD5.f (uo ++ tenancyref05_MD5.f (ui ++ s))) := hd 8 52 (by kernel_rfl) (by omega)
    refine XReg.val_ (v := .string (tenancyref05_MD5.f (uo ++ tenancyref05_MD5.f (ui ++ s)))) (w1 := w') (by rw [hop]; intro c h; cases h) (by simp [Oper.about, hop]) ?_ (by rw [hdst, hfill]; exact hK _ w' hB)
    unfold execOp
    rw [hop]
    clear hr hd hB hfill qi qo cg gl bi bo
    generalize a'.eval = ρ at e1 ⊢
    go_simp

/-! ### tenancyref05_HMAC: function 14: by hand -/
def rhmK (key : ByteArray) : ByteArray := if 64 < key.size then tenancyref05_MD5.f key else key
theorem rhmK_size (key : ByteArray) : (rhmK key).size ≤ 64 := by
  unfold rhmK
  split
  · rw [rmd5_size]; decide
  · omega
def rzeroN (s : ByteArray) : Nat → ByteArray
  | 0 => s
  | n + 1 => XAp.pushB (rzeroN s n) 0
theorem rzeroN_size (s : ByteArray) : ∀ n, (rzeroN s n).size = s.size + n
  | 0 => rfl
  | n + 1 => by show (XAp.pushB _ _).size = _; rw [XAp.size_pushB, rzeroN_size s n]; rfl
def rhmP (key : ByteArray) : ByteArray := rzeroN (rhmK key) (64 - (rhmK key).size)
def rxorN (kp : ByteArray) (m : Int) : Nat → ByteArray
  | 0 => ⟨#[]⟩
  | n + 1 => XAp.pushB (rxorN kp m n) (Go.bits .xor .u8 ((bytesOf kp).getD n 0) m)
theorem rxorN_size (kp : ByteArray) (m : Int) : ∀ n, (rxorN kp m n).size = n
  | 0 => rfl
  | n + 1 => by show (XAp.pushB _ _).size = _; rw [XAp.size_pushB, rxorN_size kp m n]
def tenancyref05_HMAC.f (key s : ByteArray) : ByteArray := tenancyref05_MD5.f (rxorN (rhmP key) 92 64 ++ tenancyref05_MD5.f (rxorN (rhmP key) 54 64 ++ s))
theorem bel_of {w W W' : World} (h : Below w.heap.size w W) (B : Nat) (hB : w.heap.size ≤ B) (hb : Below B W W') : Below w.heap.size w W' := h.trans (hb.mono hB)
set_option maxHeartbeats 8000000 in
set_option maxRecDepth 100000 in
theorem tenancyref05_HMAC.calls (key s : ByteArray) (hk : key.size ≤ 140737488354000) (hs : s.size ≤ 140737488354000) (w : World) (gl : RGlob w) :
    Calls Tryd.prog 14 #[.string key, .string s] w fun e w' => e = .returned (.string (tenancyref05_HMAC.f key s)) ∧ Below w.heap.size w w' := by
  obtain ⟨i5, hi5, hz5, hs5, hb5⟩ := infoU8
  have HS := Aside0.mk hs
  have HK := Aside0.mk hk
  have GL := Aside0.mk gl
  have HKS := Aside0.mk (rhmK_size key)
  have HP : Aside0 (rhmP key = rzeroN (rhmK key) (64 - (rhmK key).size)) := ⟨rfl⟩
  have HKd : Aside0 (rhmK key = if 64 < key.size then tenancyref05_MD5.f key else key) := ⟨rfl⟩
  have HF : Aside0 (tenancyref05_HMAC.f key s = tenancyref05_MD5.f (rxorN (rhmP key) 92 64 ++ tenancyref05_MD5.f (rxorN (rhmP key) 54 64 ++ s))) := ⟨rfl⟩
  clear hs hk gl
  generalize rhmK key = hk at HKS HP HKd
  generalize rhmP key = kp at HP HF
  go_enter Tryd.func14, Tryd.ntmps14
  by_cases c : 64 < key.size
  · have hgt : (64 : Int) < (key.size : Int) := by omega
    have h1 := HKd.out
    rw [if_pos c] at h1
    subst h1
    clear c HKd
    go_upto_region 3 with (go_at_call 12; refine (tenancyref05_MD5.calls key (by have := HK.out; omega) _ GL.out).mono ?_; rintro e wa ⟨rfl, hb⟩; have HB := Aside0.mk hb; clear hb)
    generalize tenancyref05_MD5.f key = hk at HKS HP ⊢
    go_upto_region 4 with ((with_reducible refine gate_dst (N := 15) rfl ?_); refine XRun.convL_ 15 rfl rfl 9 31 5 Tryd.underlying9 Tryd.underlying31 Tryd.underlying5 _ rfl (by first | rfl | (go_simp; done) | (go_simp; rfl)) ?_; refine ⟨_, rfl, ?_⟩)
    obtain ⟨gy, hgy⟩ : ∃ gy, gy = wa.heap.size := ⟨_, rfl⟩
    have GE : Aside0 (w.heap.size ≤ gy) := ⟨by rw [hgy]; exact HB.out.size⟩
    have BR := Aside0.mk (XAp.BRow.new wa 5 hk (by have := HKS.out; omega))
    have HB2 := Aside0.mk (below_step HB.out (bytes_below (Below.refl _ wa) (Nat.le_refl _) 5 hk))
    generalize grownCap wa hk.size 0 5 = cc at BR ⊢
    generalize Lib.bytesWorld wa 5 hk = wy at BR HB2 ⊢
    rw [← hgy] at BR ⊢
    clear hgy
    have SZY := Aside0.mk (show gy ≤ wy.heap.size by obtain ⟨_, _, e, h1, h2⟩ := BR.out.is; omega)
    generalize hcz : 64 - hk.size = cz at HP
    have HCZ : Aside0 (hk.size + cz = 64) := ⟨by have := HKS.out; omega⟩
    clear hcz
    go_loopg [5] cz (fun gg s5 wr => ∃ (n g cap : Nat) (u : ByteArray), Aside0 (n ≤ cz ∧ cz - n ≤ gg) ∧ s5 = .slice (some ⟨g, 0, none⟩) u.size cap ∧ Aside0 (rzeroN hk n = u) ∧ Aside0 (XAp.BRow 5 wr gy (.slice (some ⟨g, 0, none⟩) u.size cap) u) ∧ Aside0 (Below w.heap.size w wr) ∧ Aside0 (gy ≤ wr.heap.size))
    case atStart => exact ⟨0, gy, cc, hk, ⟨Nat.zero_le _, Nat.le_refl _⟩, rfl, ⟨rfl⟩, BR, HB2, SZY⟩
    case round =>
      clear BR HB2 SZY HB
      obtain ⟨n, g, cap, u, HN, rfl, HU, BR, HB, SZ⟩ := hrel
      have HUS : Aside0 (u.size = hk.size + n) := ⟨by rw [← HU.out]; exact rzeroN_size hk n⟩
      by_cases c : n < cz
      · have hlt : (u.size : Int) < 64 := by have := HUS.out; have := HCZ.out; omega
        have HC := Aside0.mk c
        have HS1 := Aside0.mk (show u.size + 1 ≤ 140737488355328 by have := HUS.out; have := HCZ.out; omega)
        clear c
        go_wp2_with ((with_reducible refine XAp.gate_append rfl ?_); refine XAp.appL_ 21 rfl rfl 31 rfl wr.heap.size 0 rfl rfl (BR.out.below (below_alloc (Below.refl _ wr) _)) i5 Tryd.underlying31 hi5 hz5 hs5 hb5 (blk_new wr _) (by decide) HS1.out (Nat.le_trans SZ.out (by rw [World.size_alloc]; omega)) ?_; intro v1 W1 hr1 hb1; have BR1 := Aside0.mk hr1; have HB1 := Aside0.mk (bel_of (below_alloc HB.out _) gy GE.out hb1); have SZ1 := Aside0.mk (Nat.le_trans (Nat.le_trans SZ.out (show wr.heap.size ≤ (wr.alloc _).heap.size by rw [World.size_alloc]; omega)) hb1.size); clear hr1 hb1)
        obtain ⟨g1, cap1, rfl, _⟩ := BR1.out.is
        go_roundg (cz - (n + 1))
        case measure => have := HN.out; have := HC.out; omega
        case rel => exact ⟨n + 1, g1, cap1, _, ⟨HC.out, Nat.le_refl _⟩, rfl, ⟨by show XAp.pushB (rzeroN hk n) 0 = _; rw [HU.out]⟩, BR1, HB1, SZ1⟩
      · obtain rfl : n = cz := by have := HN.out; omega
        have hus : u.size = 64 := by have := HUS.out; have := HCZ.out; omega
        have hlt : ¬ (u.size : Int) < 64 := by omega
        have hkp : kp = u := by rw [HP.out, HU.out]
        subst hkp
        clear c HN HU HP HUS HCZ HKS
        go_upto_region 9 with fail
        have SZR := Aside0.mk SZ.out
        obtain ⟨gk, capk, ek, hgk, hgl⟩ := BR.out.is
        obtain rfl : g = gk := by injection ek with e _ _; injection e with e; injection e
        clear ek hgk
        have BI : Aside0 (XAp.BRow 5 ((wr.alloc (.cells #[] 5)).alloc (.cells #[] 5)) gy (.slice (some ⟨wr.heap.size, 0, none⟩) (⟨#[]⟩ : ByteArray).size 0) ⟨#[]⟩) := ⟨(XAp.BRow.empty _ SZ.out (blk_new wr _)).below (below_alloc (Below.refl _ _) _)⟩
        have BO : Aside0 (XAp.BRow 5 ((wr.alloc (.cells #[] 5)).alloc (.cells #[] 5)) gy (.slice (some ⟨wr.heap.size + 1, 0, none⟩) (⟨#[]⟩ : ByteArray).size 0) ⟨#[]⟩) := ⟨XAp.BRow.empty _ (by have := SZ.out; omega) (by have := blk_new (wr.alloc (.cells #[] 5)) (.cells #[] 5); rw [World.size_alloc] at this; exact this)⟩
        have BK := Aside0.mk (BR.out.below (below_alloc (below_alloc (Below.refl _ wr) (.cells #[] 5)) (.cells #[] 5)))
        have HB3 := Aside0.mk (below_alloc (below_alloc HB.out (.cells #[] 5)) (.cells #[] 5))
        have NE := Aside0.mk (show g ≠ wr.heap.size ∧ g ≠ wr.heap.size + 1 ∧ wr.heap.size ≠ wr.heap.size + 1 by omega)
        have SZ3 := Aside0.mk (show gy ≤ ((wr.alloc (.cells #[] 5)).alloc (.cells #[] 5)).heap.size by rw [World.size_alloc, World.size_alloc]; have := SZ.out; omega)
        clear BR HB SZ SZR hgl
        generalize (wr.alloc (.cells #[] 5)).alloc (.cells #[] 5) = w3 at BI BO BK HB3 SZ3 ⊢
        generalize wr.heap.size + 1 = go0 at BO NE ⊢
        generalize wr.heap.size = gi0 at BI NE ⊢
        have HKS := Aside0.mk hus
        clear hus hlt
        go_loopg [6, 7, 8] 64 (fun gg s6 s7 s8 w4 => ∃ (i gi ci g_o co : Nat) (ui uo : ByteArray), Aside0 (i ≤ 64 ∧ 64 - i ≤ gg) ∧ s8 = .int .i64 i ∧ s6 = .slice (some ⟨gi, 0, none⟩) ui.size ci ∧ s7 = .slice (some ⟨g_o, 0, none⟩) uo.size co ∧ Aside0 (rxorN kp 54 i = ui) ∧ Aside0 (rxorN kp 92 i = uo) ∧ Aside0 (XAp.BRow 5 w4 gy (.slice (some ⟨gi, 0, none⟩) ui.size ci) ui) ∧ Aside0 (XAp.BRow 5 w4 gy (.slice (some ⟨g_o, 0, none⟩) uo.size co) uo) ∧ Aside0 (XAp.BRow 5 w4 gy (.slice (some ⟨g, 0, none⟩) kp.size cap) kp) ∧ Aside0 (g ≠ gi ∧ g ≠ g_o ∧ gi ≠ g_o) ∧ Aside0 (Below w.heap.size w w4) ∧ Aside0 (gy ≤ w4.heap.size))
        case atStart => exact ⟨0, gi0, 0, go0, 0, ⟨#[]⟩, ⟨#[]⟩, ⟨by omega⟩, rfl, rfl, rfl, ⟨rfl⟩, ⟨rfl⟩, BI, BO, BK, NE, HB3, SZ3⟩
        case round =>
          clear BI BO BK HB3 SZ3 NE
          obtain ⟨i, gi, ci, g_o, co, ui, uo, HI, rfl, rfl, rfl, HUI, HUO, BI, BO, BK, NE, HB, SZ⟩ := hrel
          by_cases c : i < 64
          · have hlt : (i : Int) < 64 := by omega
            have hltk : (i : Int) < (kp.size : Int) := by have := HKS.out; omega
            have hks : (kp.size : Int) = 64 := by have := HKS.out; omega
            have HC := Aside0.mk c
            have HLI := Aside0.mk (show ui.size + 1 ≤ 140737488355328 by rw [← HUI.out, rxorN_size]; omega)
            have HLO := Aside0.mk (show uo.size + 1 ≤ 140737488355328 by rw [← HUO.out, rxorN_size]; omega)
            have hck : World.cell? wr ⟨g, i, none⟩ = some (.int .u8 ((bytesOf kp).getD i 0)) := BK.out.cell i (by have := HKS.out; omega)
            have HUI2 : Aside0 (rxorN kp 54 (i + 1) = XAp.pushB ui (Go.bits .xor .u8 ((bytesOf kp).getD i 0) 54)) := ⟨by show XAp.pushB (rxorN kp 54 i) _ = _; rw [HUI.out]⟩
            have HUO2 : Aside0 (rxorN kp 92 (i + 1) = XAp.pushB uo (Go.bits .xor .u8 ((bytesOf kp).getD i 0) 92)) := ⟨by show XAp.pushB (rxorN kp 92 i) _ = _; rw [HUO.out]⟩
            generalize hkb : (bytesOf kp).getD i 0 = kb at hck HUI2 HUO2
            clear c
            go_upto_region 12 with ((with_reducible refine XAp.gate_append rfl ?_); refine XAp.appK_ 35 rfl rfl 31 rfl gi ci wr.heap.size (Go.bits .xor .u8 kb 54) rfl rfl (BI.out.below (below_alloc (Below.refl _ wr) _)) i5 Tryd.underlying31 hi5 hz5 hs5 hb5 (blk_new wr _) (u8_in _ _ _) HLI.out (Nat.le_trans SZ.out (by rw [World.size_alloc]; omega)) ?_; intro gi1 ci1 W1 hr1 hb1 hk1 hg1 hz1; have BI1 := Aside0.mk hr1; have HB1 := Aside0.mk (bel_of (below_alloc HB.out _) gy GE.out hb1); have KE1 := Aside0.mk hk1; have GG1 := Aside0.mk hg1; have SZ1 := Aside0.mk hz1; clear hr1 hb1 hk1 hg1 hz1)
            have LK := Aside0.mk (show g < wr.heap.size by obtain ⟨_, _, e, _, h2⟩ := BK.out.is; injection e with e _ _; injection e with e; injection e with e; omega)
            have LO := Aside0.mk (show g_o < wr.heap.size by obtain ⟨_, _, e, _, h2⟩ := BO.out.is; injection e with e _ _; injection e with e; injection e with e; omega)
            have BK1 := Aside0.mk ((BK.out.below (below_alloc (Below.refl _ wr) (.cells #[.int .u8 (Go.bits .xor .u8 kb 54)] 5))).same (KE1.out g (by rw [World.size_alloc]; have := LK.out; omega) NE.out.1))
            have BO1 := Aside0.mk ((BO.out.below (below_alloc (Below.refl _ wr) (.cells #[.int .u8 (Go.bits .xor .u8 kb 54)] 5))).same (KE1.out g_o (by rw [World.size_alloc]; have := LO.out; omega) (Ne.symm NE.out.2.2)))
            have NE1 := Aside0.mk (show g ≠ gi1 ∧ g ≠ g_o ∧ gi1 ≠ g_o by have h1 := GG1.out; rw [World.size_alloc] at h1; have := LK.out; have := LO.out; have := NE.out; omega)
            have SZ2 := Aside0.mk (show gy ≤ W1.heap.size by have h1 := SZ1.out; rw [World.size_alloc] at h1; have := SZ.out; omega)
            clear BI BO BK KE1 GG1 LK LO NE SZ SZ1 HB hck
            generalize hpi : XAp.pushB ui (Go.bits .xor .u8 kb 54) = pi1 at BI1 HUI2 ⊢
            clear hpi
            have hck2 : World.cell? W1 ⟨g, i, none⟩ = some (.int .u8 kb) := hkb ▸ BK1.out.cell i (by have := HKS.out; have := HC.out; omega)
            go_wp2_with ((with_reducible refine XAp.gate_append rfl ?_); refine XAp.appK_ 43 rfl rfl 31 rfl g_o co W1.heap.size (Go.bits .xor .u8 kb 92) rfl rfl (BO1.out.below (below_alloc (Below.refl _ W1) _)) i5 Tryd.underlying31 hi5 hz5 hs5 hb5 (blk_new W1 _) (u8_in _ _ _) HLO.out (Nat.le_trans SZ2.out (by rw [World.size_alloc]; omega)) ?_; intro go1 co1 W2 hr1 hb1 hk1 hg1 hz1; have BO2 := Aside0.mk hr1; have HB2 := Aside0.mk (bel_of (below_alloc HB1.out _) gy GE.out hb1); have KE2 := Aside0.mk hk1; have GG2 := Aside0.mk hg1; have SZ3 := Aside0.mk hz1; clear hr1 hb1 hk1 hg1 hz1)
            have LK := Aside0.mk (show g < W1.heap.size by obtain ⟨_, _, e, _, h2⟩ := BK1.out.is; injection e with e _ _; injection e with e; injection e with e; omega)
            have LI := Aside0.mk (show gi1 < W1.heap.size by obtain ⟨_, _, e, _, h2⟩ := BI1.out.is; injection e with e _ _; injection e with e; injection e with e; omega)
            have BK2 := Aside0.mk ((BK1.out.below (below_alloc (Below.refl _ W1) (.cells #[.int .u8 (Go.bits .xor .u8 kb 92)] 5))).same (KE2.out g (by rw [World.size_alloc]; have := LK.out; omega) NE1.out.2.1))
            have BI2 := Aside0.mk ((BI1.out.below (below_alloc (Below.refl _ W1) (.cells #[.int .u8 (Go.bits .xor .u8 kb 92)] 5))).same (KE2.out gi1 (by rw [World.size_alloc]; have := LI.out; omega) NE1.out.2.2))
            have NE2 := Aside0.mk (show g ≠ gi1 ∧ g ≠ go1 ∧ gi1 ≠ go1 by have h1 := GG2.out; rw [World.size_alloc] at h1; have := LK.out; have := LI.out; have := NE1.out; omega)
            have SZ4 := Aside0.mk (show gy ≤ W2.heap.size by have h1 := SZ3.out; rw [World.size_alloc] at h1; have := SZ2.out; omega)
            clear BI1 BO1 BK1 KE2 GG2 LK LI NE1 SZ2 SZ3 HB1 hck2
            go_roundg (64 - (i + 1))
            case measure => have := HI.out; have := HC.out; omega
            case rel => exact ⟨i + 1, gi1, ci1, go1, co1, pi1, _, ⟨HC.out, Nat.le_refl _⟩, rfl, rfl, rfl, HUI2, HUO2, BI2, BO2, BK2, NE2, HB2, SZ4⟩
          · obtain rfl : i = 64 := by have := HI.out; omega
            have hlt : ¬ ((64 : Int) < 64) := by omega
            clear HI c
            have HZ3 := Aside0.mk (show ui.size = 64 ∧ uo.size = 64 ∧ s.size ≤ 140737488354000 from ⟨by rw [← HUI.out]; exact rxorN_size kp 54 64, by rw [← HUO.out]; exact rxorN_size kp 92 64, HS.out⟩)
            have HFF : Aside0 (tenancyref05_HMAC.f key s = tenancyref05_MD5.f (uo ++ tenancyref05_MD5.f (ui ++ s))) := ⟨by rw [HF.out, HUI.out, HUO.out]⟩
            clear BK NE SZ HUI HUO HF HKS
            go_upto_region 13 with fail
            refine refHm _ rfl _ _ _ _ (by kernel_rfl) gi ci g_o co gy ui uo s rfl rfl rfl BI.out BO.out (GL.out.below HB.out) HZ3 ?_
            intro u W3 hb3
            have HBW := Aside0.mk (below_step HB.out hb3)
            clear hb3 HB BI BO
            simp only [XReg.fills, List.foldl_cons, List.foldl_nil, Act.put, List.setIfInBounds_toArray, List.set_cons_zero, List.set_cons_succ]
            go_wp2
            go_ret
            exact ⟨by rw [HFF.out]; rfl, HBW.out⟩
  · have hgt : ¬ (64 : Int) < (key.size : Int) := by omega
    have h1 := HKd.out
    rw [if_neg c] at h1
    subst h1
    clear c HKd
    have HB := Aside0.mk (Below.refl w.heap.size w)
    go_upto_region 3 with fail
    go_upto_region 4 with ((with_reducible refine gate_dst (N := 15) rfl ?_); refine XRun.convL_ 15 rfl rfl 9 31 5 Tryd.underlying9 Tryd.underlying31 Tryd.underlying5 _ rfl (by first | rfl | (go_simp; done) | (go_simp; rfl)) ?_; refine ⟨_, rfl, ?_⟩)
    obtain ⟨gy, hgy⟩ : ∃ gy, gy = w.heap.size := ⟨_, rfl⟩
    have GE : Aside0 (w.heap.size ≤ gy) := ⟨by rw [hgy]; exact HB.out.size⟩
    have BR := Aside0.mk (XAp.BRow.new w 5 hk (by have := HKS.out; omega))
    have HB2 := Aside0.mk (below_step HB.out (bytes_below (Below.refl _ w) (Nat.le_refl _) 5 hk))
    generalize grownCap w hk.size 0 5 = cc at BR ⊢
    generalize Lib.bytesWorld w 5 hk = wy at BR HB2 ⊢
    rw [← hgy] at BR ⊢
    clear hgy
    have SZY := Aside0.mk (show gy ≤ wy.heap.size by obtain ⟨_, _, e, h1, h2⟩ := BR.out.is; omega)
    generalize hcz : 64 - hk.size = cz at HP
    have HCZ : Aside0 (hk.size + cz = 64) := ⟨by have := HKS.out; omega⟩
    clear hcz
    go_loopg [5] cz (fun gg s5 wr => ∃ (n g cap : Nat) (u : ByteArray), Aside0 (n ≤ cz ∧ cz - n ≤ gg) ∧ s5 = .slice (some ⟨g, 0, none⟩) u.size cap ∧ Aside0 (rzeroN hk n = u) ∧ Aside0 (XAp.BRow 5 wr gy (.slice (some ⟨g, 0, none⟩) u.size cap) u) ∧ Aside0 (Below w.heap.size w wr) ∧ Aside0 (gy ≤ wr.heap.size))
    case atStart => exact ⟨0, gy, cc, hk, ⟨Nat.zero_le _, Nat.le_refl _⟩, rfl, ⟨rfl⟩, BR, HB2, SZY⟩
    case round =>
      clear BR HB2 SZY HB
      obtain ⟨n, g, cap, u, HN, rfl, HU, BR, HB, SZ⟩ := hrel
      have HUS : Aside0 (u.size = hk.size + n) := ⟨by rw [← HU.out]; exact rzeroN_size hk n⟩
      by_cases c : n < cz
      · have hlt : (u.size : Int) < 64 := by have := HUS.out; have := HCZ.out; omega
        have HC := Aside0.mk c
        have HS1 := Aside0.mk (show u.size + 1 ≤ 140737488355328 by have := HUS.out; have := HCZ.out; omega)
        clear c
        go_wp2_with ((with_reducible refine XAp.gate_append rfl ?_); refine XAp.appL_ 21 rfl rfl 31 rfl wr.heap.size 0 rfl rfl (BR.out.below (below_alloc (Below.refl _ wr) _)) i5 Tryd.underlying31 hi5 hz5 hs5 hb5 (blk_new wr _) (by decide) HS1.out (Nat.le_trans SZ.out (by rw [World.size_alloc]; omega)) ?_; intro v1 W1 hr1 hb1; have BR1 := Aside0.mk hr1; have HB1 := Aside0.mk (bel_of (below_alloc HB.out _) gy GE.out hb1); have SZ1 := Aside0.mk (Nat.le_trans (Nat.le_trans SZ.out (show wr.heap.size ≤ (wr.alloc _).heap.size by rw [World.size_alloc]; omega)) hb1.size); clear hr1 hb1)
        obtain ⟨g1, cap1, rfl, _⟩ := BR1.out.is
        go_roundg (cz - (n + 1))
        case measure => have := HN.out; have := HC.out; omega
        case rel => exact ⟨n + 1, g1, cap1, _, ⟨HC.out, Nat.le_refl _⟩, rfl, ⟨by show XAp.pushB (rzeroN hk n) 0 = _; rw [HU.out]⟩, BR1, HB1, SZ1⟩
      · obtain rfl : n = cz := by have := HN.out; omega
        have hus : u.size = 64 := by have := HUS.out; have := HCZ.out; omega
        have hlt : ¬ (u.size : Int) < 64 := by omega
        have hkp : kp = u := by rw [HP.out, HU.out]
        subst hkp
        clear c HN HU HP HUS HCZ HKS
        go_upto_region 9 with fail
        have SZR := Aside0.mk SZ.out
        obtain ⟨gk, capk, ek, hgk, hgl⟩ := BR.out.is
        obtain rfl : g = gk := by injection ek with e _ _; injection e with e; injection e
        clear ek hgk
        have BI : Aside0 (XAp.BRow 5 ((wr.alloc (.cells #[] 5)).alloc (.cells #[] 5)) gy (.slice (some ⟨wr.heap.size, 0, none⟩) (⟨#[]⟩ : ByteArray).size 0) ⟨#[]⟩) := ⟨(XAp.BRow.empty _ SZ.out (blk_new wr _)).below (below_alloc (Below.refl _ _) _)⟩
        have BO : Aside0 (XAp.BRow 5 ((wr.alloc (.cells #[] 5)).alloc (.cells #[] 5)) gy (.slice (some ⟨wr.heap.size + 1, 0, none⟩) (⟨#[]⟩ : ByteArray).size 0) ⟨#[]⟩) := ⟨XAp.BRow.empty _ (by have := SZ.out; omega) (by have := blk_new (wr.alloc (.cells #[] 5)) (.cells #[] 5); rw [World.size_alloc] at this; exact this)⟩
        have BK := Aside0.mk (BR.out.below (below_alloc (below_alloc (Below.refl _ wr) (.cells #[] 5)) (.cells #[] 5)))
        have HB3 := Aside0.mk (below_alloc (below_alloc HB.out (.cells #[] 5)) (.cells #[] 5))
        have NE := Aside0.mk (show g ≠ wr.heap.size ∧ g ≠ wr.heap.size + 1 ∧ wr.heap.size ≠ wr.heap.size + 1 by omega)
        have SZ3 := Aside0.mk (show gy ≤ ((wr.alloc (.cells #[] 5)).alloc (.cells #[] 5)).heap.size by rw [World.size_alloc, World.size_alloc]; have := SZ.out; omega)
        clear BR HB SZ SZR hgl
        generalize (wr.alloc (.cells #[] 5)).alloc (.cells #[] 5) = w3 at BI BO BK HB3 SZ3 ⊢
        generalize wr.heap.size + 1 = go0 at BO NE ⊢
        generalize wr.heap.size = gi0 at BI NE ⊢
        have HKS := Aside0.mk hus
        clear hus hlt
        go_loopg [6, 7, 8] 64 (fun gg s6 s7 s8 w4 => ∃ (i gi ci g_o co : Nat) (ui uo : ByteArray), Aside0 (i ≤ 64 ∧ 64 - i ≤ gg) ∧ s8 = .int .i64 i ∧ s6 = .slice (some ⟨gi, 0, none⟩) ui.size ci ∧ s7 = .slice (some ⟨g_o, 0, none⟩) uo.size co ∧ Aside0 (rxorN kp 54 i = ui) ∧ Aside0 (rxorN kp 92 i = uo) ∧ Aside0 (XAp.BRow 5 w4 gy (.slice (some ⟨gi, 0, none⟩) ui.size ci) ui) ∧ Aside0 (XAp.BRow 5 w4 gy (.slice (some ⟨g_o, 0, none⟩) uo.size co) uo) ∧ Aside0 (XAp.BRow 5 w4 gy (.slice (some ⟨g, 0, none⟩) kp.size cap) kp) ∧ Aside0 (g ≠ gi ∧ g ≠ g_o ∧ gi ≠ g_o) ∧ Aside0 (Below w.heap.size w w4) ∧ Aside0 (gy ≤ w4.heap.size))
        case atStart => exact ⟨0, gi0, 0, go0, 0, ⟨#[]⟩, ⟨#[]⟩, ⟨by omega⟩, rfl, rfl, rfl, ⟨rfl⟩, ⟨rfl⟩, BI, BO, BK, NE, HB3, SZ3⟩
        case round =>
          clear BI BO BK HB3 SZ3 NE
          obtain ⟨i, gi, ci, g_o, co, ui, uo, HI, rfl, rfl, rfl, HUI, HUO, BI, BO, BK, NE, HB, SZ⟩ := hrel
          by_cases c : i < 64
          · have hlt : (i : Int) < 64 := by omega
            have hltk : (i : Int) < (kp.size : Int) := by have := HKS.out; omega
            have hks : (kp.size : Int) = 64 := by have := HKS.out; omega
            have HC := Aside0.mk c
            have HLI := Aside0.mk (show ui.size + 1 ≤ 140737488355328 by rw [← HUI.out, rxorN_size]; omega)
            have HLO := Aside0.mk (show uo.size + 1 ≤ 140737488355328 by rw [← HUO.out, rxorN_size]; omega)
            have hck : World.cell? wr ⟨g, i, none⟩ = some (.int .u8 ((bytesOf kp).getD i 0)) := BK.out.cell i (by have := HKS.out; omega)
            have HUI2 : Aside0 (rxorN kp 54 (i + 1) = XAp.pushB ui (Go.bits .xor .u8 ((bytesOf kp).getD i 0) 54)) := ⟨by show XAp.pushB (rxorN kp 54 i) _ = _; rw [HUI.out]⟩
            have HUO2 : Aside0 (rxorN kp 92 (i + 1) = XAp.pushB uo (Go.bits .xor .u8 ((bytesOf kp).getD i 0) 92)) := ⟨by show XAp.pushB (rxorN kp 92 i) _ = _; rw [HUO.out]⟩
            generalize hkb : (bytesOf kp).getD i 0 = kb at hck HUI2 HUO2
            clear c
            go_upto_region 12 with ((with_reducible refine XAp.gate_append rfl ?_); refine XAp.appK_ 35 rfl rfl 31 rfl gi ci wr.heap.size (Go.bits .xor .u8 kb 54) rfl rfl (BI.out.below (below_alloc (Below.refl _ wr) _)) i5 Tryd.underlying31 hi5 hz5 hs5 hb5 (blk_new wr _) (u8_in _ _ _) HLI.out (Nat.le_trans SZ.out (by rw [World.size_alloc]; omega)) ?_; intro gi1 ci1 W1 hr1 hb1 hk1 hg1 hz1; have BI1 := Aside0.mk hr1; have HB1 := Aside0.mk (bel_of (below_alloc HB.out _) gy GE.out hb1); have KE1 := Aside0.mk hk1; have GG1 := Aside0.mk hg1; have SZ1 := Aside0.mk hz1; clear hr1 hb1 hk1 hg1 hz1)
            have LK := Aside0.mk (show g < wr.heap.size by obtain ⟨_, _, e, _, h2⟩ := BK.out.is; injection e with e _ _; injection e with e; injection e with e; omega)
            have LO := Aside0.mk (show g_o < wr.heap.size by obtain ⟨_, _, e, _, h2⟩ := BO.out.is; injection e with e _ _; injection e with e; injection e with e; omega)
            have BK1 := Aside0.mk ((BK.out.below (below_alloc (Below.refl _ wr) (.cells #[.int .u8 (Go.bits .xor .u8 kb 54)] 5))).same (KE1.out g (by rw [World.size_alloc]; have := LK.out; omega) NE.out.1))
            have BO1 := Aside0.mk ((BO.out.below (below_alloc (Below.refl _ wr) (.cells #[.int .u8 (Go.bits .xor .u8 kb 54)] 5))).same (KE1.out g_o (by rw [World.size_alloc]; have := LO.out; omega) (Ne.symm NE.out.2.2)))
            have NE1 := Aside0.mk (show g ≠ gi1 ∧ g ≠ g_o ∧ gi1 ≠ g_o by have h1 := GG1.out; rw [World.size_alloc] at h1; have := LK.out; have := LO.out; have := NE.out; omega)
            have SZ2 := Aside0.mk (show gy ≤ W1.heap.size by have h1 := SZ1.out; rw [World.size_alloc] at h1; have := SZ.out; omega)
            clear BI BO BK KE1 GG1 LK LO NE SZ SZ1 HB hck
            generalize hpi : XAp.pushB ui (Go.bits .xor .u8 kb 54) = pi1 at BI1 HUI2 ⊢
            clear hpi
            have hck2 : World.cell? W1 ⟨g, i, none⟩ = some (.int .u8 kb) := hkb ▸ BK1.out.cell i (by have := HKS.out; have := HC.out; omega)
            go_wp2_with ((with_reducible refine XAp.gate_append rfl ?_); refine XAp.appK_ 43 rfl rfl 31 rfl g_o co W1.heap.size (Go.bits .xor .u8 kb 92) rfl rfl (BO1.out.below (below_alloc (Below.refl _ W1) _)) i5 Tryd.underlying31 hi5 hz5 hs5 hb5 (blk_new W1 _) (u8_in _ _ _) HLO.out (Nat.le_trans SZ2.out (by rw [World.size_alloc]; omega)) ?_; intro go1 co1 W2 hr1 hb1 hk1 hg1 hz1; have BO2 := Aside0.mk hr1; have HB2 := Aside0.mk (bel_of (below_alloc HB1.out _) gy GE.out hb1); have KE2 := Aside0.mk hk1; have GG2 := Aside0.mk hg1; have SZ3 := Aside0.mk hz1; clear hr1 hb1 hk1 hg1 hz1)
            have LK := Aside0.mk (show g < W1.heap.size by obtain ⟨_, _, e, _, h2⟩ := BK1.out.is; injection e with e _ _; injection e with e; injection e with e; omega)
            have LI := Aside0.mk (show gi1 < W1.heap.size by obtain ⟨_, _, e, _, h2⟩ := BI1.out.is; injection e with e _ _; injection e with e; injection e with e; omega)
            have BK2 := Aside0.mk ((BK1.out.below (below_alloc (Below.refl _ W1) (.cells #[.int .u8 (Go.bits .xor .u8 kb 92)] 5))).same (KE2.out g (by rw [World.size_alloc]; have := LK.out; omega) NE1.out.2.1))
            have BI2 := Aside0.mk ((BI1.out.below (below_alloc (Below.refl _ W1) (.cells #[.int .u8 (Go.bits .xor .u8 kb 92)] 5))).same (KE2.out gi1 (by rw [World.size_alloc]; have := LI.out; omega) NE1.out.2.2))
            have NE2 := Aside0.mk (show g ≠ gi1 ∧ g ≠ go1 ∧ gi1 ≠ go1 by have h1 := GG2.out; rw [World.size_alloc] at h1; have := LK.out; have := LI.out; have := NE1.out; omega)
            have SZ4 := Aside0.mk (show gy ≤ W2.heap.size by have h1 := SZ3.out; rw [World.size_alloc] at h1; have := SZ2.out; omega)
            clear BI1 BO1 BK1 KE2 GG2 LK LI NE1 SZ2 SZ3 HB1 hck2
            go_roundg (64 - (i + 1))
            case measure => have := HI.out; have := HC.out; omega
            case rel => exact ⟨i + 1, gi1, ci1, go1, co1, pi1, _, ⟨HC.out, Nat.le_refl _⟩, rfl, rfl, rfl, HUI2, HUO2, BI2, BO2, BK2, NE2, HB2, SZ4⟩
          · obtain rfl : i = 64 := by have := HI.out; omega
            have hlt : ¬ ((64 : Int) < 64) := by omega
            clear HI c
            have HZ3 := Aside0.mk (show ui.size = 64 ∧ uo.size = 64 ∧ s.size ≤ 140737488354000 from ⟨by rw [← HUI.out]; exact rxorN_size kp 54 64, by rw [← HUO.out]; exact rxorN_size kp 92 64, HS.out⟩)
            have HFF : Aside0 (tenancyref05_HMAC.f hk s = tenancyref05_MD5.f (uo ++ tenancyref05_MD5.f (ui ++ s))) := ⟨by rw [HF.out, HUI.out, HUO.out]⟩
            clear BK NE SZ HUI HUO HF HKS
            go_upto_region 13 with fail
            refine refHm _ rfl _ _ _ _ (by kernel_rfl) gi ci g_o co gy ui uo s rfl rfl rfl BI.out BO.out (GL.out.below HB.out) HZ3 ?_
            intro u W3 hb3
            have HBW := Aside0.mk (below_step HB.out hb3)
            clear hb3 HB BI BO
            simp only [XReg.fills, List.foldl_cons, List.foldl_nil, Act.put, List.setIfInBounds_toArray, List.set_cons_zero, List.set_cons_succ]
            go_wp2
            go_ret
            exact ⟨by rw [HFF.out]; rfl, HBW.out⟩

end Go.Proofs.YtjpcokifadaedaaDoor.X
