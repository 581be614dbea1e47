import Derived.RangeFuncNested
import Derived.RangeFuncBound
import Derived.RangeFuncCalls
import Derived.RangeFuncLeaves
import Derived.Shelf.Abstract
import Derived.Shelf.RegionOpen
import Derived.WalkKit
import Derived.OwnWalkIn
import Derived.TacticsInMore
import Derived.LoopNIn
import Derived.LoopIn
import Derived.Lib.AppendZerosOnto
import Derived.Shelf.Spec.SlicesInsert
import Derived.Deep.RegionLaw
import Derived.WalkLawsBesides
import Derived.Recover
import Derived.Defers
import Derived.Test.YtjpcokifadaedaaDoorX0
import Derived.Test.YtjpcokifadaedaaDoorXOrow
import Derived.Outline
import Derived.Lib.Hide
import Derived.Laws.IdiomCopy
import Derived.Lib.SliceRun
import Derived.WalkSpells
import Derived.Test.YtjpcokifadaedaaDoorXD1
namespace Go.Proofs.YtjpcokifadaedaaDoor.X
open Go.RowKit Go.Proofs.YtjpcokifadaedaaDoorW.PrintWords Go.Proofs.YtjpcokifadaedaaDoorW.PrintLast Go.Proofs.YtjpcokifadaedaaDoorW.PrintMore
set_option linter.unusedVariables false
set_option linter.unusedSimpArgs false
/-! ### digest.little, told in a row: by hand -/
def leL (n : Int) (k : Nat) : List Int := (List.range k).map (fun i => n / 2 ^ (8 * i) % 256)
def leS (n : Int) (k : Nat) : ByteArray := strOfNums (leL n k)
theorem leS_size (n : Int) (k : Nat) : (leS n k).size = k := by
  show ((leL n k).map _).toArray.size = k
  simp [leL]
theorem little8 (n : Int) : digest_little.f 9 n 8 = some (leS n 8) := by
  unfold digest_little.f
  rw [if_pos (by decide), if_pos (by decide)]
  simp only [Option.bind_some]
  simp [digest_little.l0, wrap64, shr, IntKind.bits, leS, leL, List.replicate, List.range, List.range.loop]
theorem little4 (n : Int) : digest_little.f 9 n 4 = some (leS n 4) := by
  unfold digest_little.f
  rw [if_pos (by decide), if_pos (by decide)]
  simp only [Option.bind_some]
  simp [digest_little.l0, wrap64, shr, IntKind.bits, leS, leL, List.replicate, List.range, List.range.loop]
/-! ### an array's element: by hand -/
theorem idx4 (h0 h1 h2 h3 : Int) (q : Nat) (v : Int) (hq : [h0, h1, h2, h3][q]? = some v) (W : World) : (Instr.index 37 (.agg #[.int .u32 h0, .int .u32 h1, .int .u32 h2, .int .u32 h3]) (.int .i64 q)).run Tryd.prog W = .ok (.int .u32 v) W := by
  have hu37 := Tryd.underlying37
  have hk : Tryd.prog.plainKey 23 = true := by kernel_rfl
  have hc : Tryd.prog.cellsOf 23 = 1 := by kernel_rfl
  obtain ⟨i, hi⟩ : ∃ i, Tryd.prog.info? 23 = some i := ⟨_, Option.eq_some_of_isSome (by kernel_rfl)⟩
  have hs : ∀ w, (sizeOf 23).run Tryd.prog w = .ok (Tryd.prog.cellsOf 23) w := fun w => run_sizeOf w hi
  rw [hc] at hs
  match q, hq with
  | 0, hq => obtain rfl := Option.some.inj hq; simp [Instr.index, run_underlying hu37, asIntOf, hs]; exact run_part_plain (P := Tryd.prog) (w := W) hk (xs := #[.int .u32 h0, .int .u32 h1, .int .u32 h2, .int .u32 h3]) (off := 0) (v := .int .u32 h0) rfl
  | 1, hq => obtain rfl := Option.some.inj hq; simp [Instr.index, run_underlying hu37, asIntOf, hs]; exact run_part_plain (P := Tryd.prog) (w := W) hk (xs := #[.int .u32 h0, .int .u32 h1, .int .u32 h2, .int .u32 h3]) (off := 1) (v := .int .u32 h1) rfl
  | 2, hq => obtain rfl := Option.some.inj hq; simp [Instr.index, run_underlying hu37, asIntOf, hs]; exact run_part_plain (P := Tryd.prog) (w := W) hk (xs := #[.int .u32 h0, .int .u32 h1, .int .u32 h2, .int .u32 h3]) (off := 2) (v := .int .u32 h2) rfl
  | 3, hq => obtain rfl := Option.some.inj hq; simp [Instr.index, run_underlying hu37, asIntOf, hs]; exact run_part_plain (P := Tryd.prog) (w := W) hk (xs := #[.int .u32 h0, .int .u32 h1, .int .u32 h2, .int .u32 h3]) (off := 3) (v := .int .u32 h3) rfl

/-! ### digest_MD5: function 11: by hand -/
def md5Z (s : ByteArray) : Nat := (119 - s.size % 64) % 64
def zeroS (n : Nat) : ByteArray := ⟨(Lib.repeatL [0] n).toArray⟩
def md5T (s : ByteArray) : ByteArray := ((s ++ ⟨#[128]⟩) ++ zeroS (md5Z s)) ++ leS ((s.size : Int) * 8) 8
def md5N : Nat → ByteArray → Md → Md
  | 0, _, h => h
  | n + 1, t, h => md5N n (t.extract 64 t.size) (takeF h t)
def mdI : Md := ⟨1732584193, 4023233417, 2562383102, 271733878⟩
def mdS (h : Md) : ByteArray := (((leS (h.a % 18446744073709551616) 4 ++ leS (h.b % 18446744073709551616) 4) ++ leS (h.c % 18446744073709551616) 4) ++ leS (h.d % 18446744073709551616) 4)
def digest_MD5.f (s : ByteArray) : ByteArray := mdS (md5N ((md5T s).size / 64) (md5T s) mdI)
theorem zeroS_size (n : Nat) : (zeroS n).size = n := by
  show (Lib.repeatL [0] n).toArray.size = n
  rw [List.size_toArray]
  induction n with
  | zero => rfl
  | succ n ih => simp [Lib.repeatL] at ih ⊢; omega
theorem rep_eq (n : Nat) (h : n ≤ 64) : strings_Repeat.f ⟨#[0]⟩ (n : Int) = some (zeroS n) := by
  unfold strings_Repeat.f
  rw [if_pos (by refine ⟨by omega, ?_, by omega⟩; show 1 * (n : Int).toNat ≤ _; omega)]
  rfl
theorem md5T_size (s : ByteArray) : (md5T s).size = s.size + 1 + md5Z s + 8 ∧ (md5T s).size % 64 = 0 := by
  have h : (md5T s).size = s.size + 1 + md5Z s + 8 := by
    unfold md5T
    rw [ByteArray.size_append, ByteArray.size_append, ByteArray.size_append, zeroS_size, leS_size]
    rfl
  refine ⟨h, ?_⟩
  rw [h]
  unfold md5Z
  omega
def mdC (h : Md) : Array Value := #[.int .u32 h.a, .int .u32 h.b, .int .u32 h.c, .int .u32 h.d]
set_option maxHeartbeats 4000000 in
set_option maxRecDepth 100000 in
theorem digest_MD5.calls (s : ByteArray) (hs : s.size ≤ 1152921504606846976) (w : World) (gl : Glob w) :
    Calls Tryd.prog 11 #[.string s] w fun e w' => e = .returned (.string (digest_MD5.f s)) ∧ Below w.heap.size w w' := by
  have hu37 := Tryd.underlying37
  have hi37 : (Tryd.prog.info? 37).map (·.size) = some 4 := by kernel_rfl
  have GL := Aside0.mk gl
  have HS := Aside0.mk hs
  have HZ : Aside0 (md5Z s ≤ 64) := ⟨by unfold md5Z; omega⟩
  have hm1 : Int.tmod (s.size : Int) 64 = ((s.size % 64 : Nat) : Int) := tmod_nat s.size 64
  have hm2 : wrap64 (119 - ((s.size % 64 : Nat) : Int)) = ((119 - s.size % 64 : Nat) : Int) := by rw [Go.IntWalk.wrap64_in _ (by omega)]; omega
  have hm3 : Int.tmod ((119 - s.size % 64 : Nat) : Int) 64 = ((md5Z s : Nat) : Int) := tmod_nat (119 - s.size % 64) 64
  clear gl hs
  go_enter Tryd.func11, Tryd.ntmps11
  go_upto_region 2 with fail
  have hz : (119 - (s.size : Int) % 64) % 64 = ((md5Z s : Nat) : Int) := by unfold md5Z; omega
  rw [hz]
  clear hz hm1 hm2 hm3
  have HT : Aside0 (((s ++ ⟨#[128]⟩) ++ zeroS (md5Z s)) ++ leS ((s.size : Int) * 8) 8 = md5T s) := ⟨rfl⟩
  generalize hzz : md5Z s = z at HZ HT ⊢
  have hs1 : s.size ≤ 1152921504606846976 := HS.out
  have hz64 : z ≤ 64 := HZ.out
  have hzs : (zeroS z).size = z := zeroS_size z
  have hls : (leS ((s.size : Int) * 8) 8).size = 8 := leS_size _ _
  have hu : ((s.size : Int) * 8) % 18446744073709551616 = (s.size : Int) * 8 := by omega
  have hu2 : (s.size : Int) % 18446744073709551616 = (s.size : Int) := by omega
  generalize hzv : zeroS z = zs at hzs HT
  generalize hlv : leS ((s.size : Int) * 8) 8 = ls at hls HT
  go_upto_region 4 with (first
    | (go_at_call 16; refine (strings_Repeat.calls ⟨#[0]⟩ z zs _ (hzv ▸ rep_eq z HZ.out)).mono ?_; rintro e w1 ⟨rfl, hb⟩; have HB1 := Aside0.mk hb; clear hb)
    | (go_at_call 17; refine (digest_little.calls 9 _ 8 ls _ (hlv ▸ little8 _)).mono ?_; rintro e w2 ⟨rfl, hb⟩; have HB2 := Aside0.mk (below_step HB1.out hb); clear hb))
  have BH0 := Aside0.mk (blk_new w2 (.cells (mdC mdI) 37))
  have HB0 := Aside0.mk (below_alloc HB2.out (.cells (mdC mdI) 37))
  rw [show (Obj.cells #[Value.int IntKind.u32 1732584193, Value.int IntKind.u32 4023233417, Value.int IntKind.u32 2562383102, Value.int IntKind.u32 271733878] 37) = Obj.cells (mdC mdI) 37 from rfl]
  have GE := Aside0.mk HB2.out.size
  generalize w2.alloc (.cells (mdC mdI) 37) = w3 at BH0 HB0 ⊢
  generalize w2.heap.size = gh at BH0 GE ⊢
  rw [HT.out]
  have HTS := Aside0.mk (md5T_size s)
  clear HT HB1 HB2 HZ hz64 hzs hls hu hu2 hzz hzv hlv hs1
  generalize hres : md5N ((md5T s).size / 64) (md5T s) mdI = res
  have HR0 := Aside0.mk hres
  have HF : Aside0 (digest_MD5.f s = mdS res) := ⟨by rw [← hres]; rfl⟩
  clear hres
  generalize md5T s = tx at HTS HR0 ⊢
  go_loopg [4] (tx.size / 64) (fun gg s4 wr => ∃ (n : Nat) (t : ByteArray) (h : Md), Aside0 (t.size = 64 * n ∧ t.size ≤ 9223372036854775807) ∧ Aside0 (n ≤ gg) ∧ s4 = .string t ∧ Aside0 (md5N n t h = res) ∧ Aside0 (wr.heap[gh]? = some (.cells (mdC h) 37 (0, 0))) ∧ Aside0 (Below w.heap.size w wr))
  case atStart => exact ⟨tx.size / 64, tx, mdI, ⟨by have := HTS.out; have := HS.out; have : md5Z s < 64 := Nat.mod_lt _ (by decide); omega⟩, ⟨Nat.le_refl _⟩, rfl, HR0, BH0, HB0⟩
  case round =>
    clear BH0 HB0 HR0 HTS
    obtain ⟨n, t, h, HTZ, HN, rfl, HR, BH, HB⟩ := hrel
    cases n with
    | zero =>
      have ht : t = ⟨#[]⟩ := by
        have := HTZ.out.1
        apply ByteArray.ext
        exact Array.eq_empty_of_size_eq_zero (by simpa using this)
      subst ht
      have hr := HR.out
      unfold md5N at hr
      subst hr
      go_upto_region 8 with fail
      have IS0 := Aside0.mk (Bld.Is.new 41 5 wr)
      have HBn := Aside0.mk (below_alloc HB.out (.cells #[.pointer none, .slice none 0 0] 41))
      have BHn := Aside0.mk (blk_alloc BH.out (.cells #[.pointer none, .slice none 0 0] 41))
      obtain ⟨gb, hgb⟩ : ∃ gb, gb = wr.heap.size := ⟨_, rfl⟩
      have GB := Aside0.mk (show w.heap.size ≤ gb by rw [hgb]; exact HB.out.size)
      have SZ := Aside0.mk (show gb ≤ (wr.alloc (.cells #[.pointer none, .slice none 0 0] 41)).heap.size by rw [World.size_alloc]; omega)
      rw [← hgb]
      rw [← hgb] at IS0
      clear hgb
      generalize wr.alloc (.cells #[.pointer none, .slice none 0 0] 41) = w4 at IS0 HBn BHn SZ ⊢
      go_upto_region 9 with ((with_reducible refine gate_dst (N := 33) rfl ?_); refine XBox.loadL_ 33 rfl rfl 37 rfl gh rfl _ BHn.out hu37 rfl hi37 ?_; simp only [Act.put, List.setIfInBounds_toArray, List.set_cons_zero, List.set_cons_succ])
      rw [show Value.agg (mdC h) = .agg #[.int .u32 h.a, .int .u32 h.b, .int .u32 h.c, .int .u32 h.d] from rfl]
      have hx0 := fun W => idx4 h.a h.b h.c h.d 0 h.a rfl W
      have hx1 := fun W => idx4 h.a h.b h.c h.d 1 h.b rfl W
      have hx2 := fun W => idx4 h.a h.b h.c h.d 2 h.c rfl W
      have hx3 := fun W => idx4 h.a h.b h.c h.d 3 h.d rfl W
      simp only [Int.natCast_zero, Int.natCast_one, Int.cast_ofNat_Int] at hx0 hx1 hx2 hx3
      generalize hwa : leS (h.a % 18446744073709551616) 4 = wa
      generalize hwb : leS (h.b % 18446744073709551616) 4 = wb
      generalize hwc : leS (h.c % 18446744073709551616) 4 = wc_
      generalize hwd : leS (h.d % 18446744073709551616) 4 = wd
      have hsa : wa.size = 4 := hwa ▸ leS_size _ _
      have hsb : wb.size = 4 := hwb ▸ leS_size _ _
      have hsc : wc_.size = 4 := hwc ▸ leS_size _ _
      have hsd : wd.size = 4 := hwd ▸ leS_size _ _
      have HSZ := Aside0.mk (show wa.size = 4 ∧ wb.size = 4 ∧ wc_.size = 4 ∧ wd.size = 4 from ⟨hsa, hsb, hsc, hsd⟩)
      clear hsa hsb hsc hsd
      have HF2 : Aside0 (digest_MD5.f s = ((wa ++ wb) ++ wc_) ++ wd) := ⟨by rw [HF.out, ← hwa, ← hwb, ← hwc, ← hwd]; rfl⟩
      go_loopg [8, 34] 4 (fun gg _ s34 wr2 => Aside0 (Below w.heap.size w wr2) ∧ Aside0 (gb ≤ wr2.heap.size) ∧ ((Aside0 (4 ≤ gg) ∧ s34 = .int .i64 0 ∧ Aside0 (Bld.Is 41 5 gb gb (⟨#[]⟩ : ByteArray) wr2)) ∨ (Aside0 (3 ≤ gg) ∧ s34 = .int .i64 1 ∧ Aside0 (Bld.Is 41 5 gb gb ((⟨#[]⟩ : ByteArray) ++ wa) wr2)) ∨ (Aside0 (2 ≤ gg) ∧ s34 = .int .i64 2 ∧ Aside0 (Bld.Is 41 5 gb gb ((⟨#[]⟩ : ByteArray) ++ wa ++ wb) wr2)) ∨ (Aside0 (1 ≤ gg) ∧ s34 = .int .i64 3 ∧ Aside0 (Bld.Is 41 5 gb gb ((⟨#[]⟩ : ByteArray) ++ wa ++ wb ++ wc_) wr2)) ∨ (s34 = .int .i64 4 ∧ Aside0 (Bld.Is 41 5 gb gb ((⟨#[]⟩ : ByteArray) ++ wa ++ wb ++ wc_ ++ wd) wr2))))
      case atStart => exact ⟨HBn, SZ, .inl ⟨⟨Nat.le_refl _⟩, rfl, IS0⟩⟩
      case round =>
        clear IS0 HBn SZ
        obtain ⟨HBr, SZr, hcs⟩ := hrel
        rcases hcs with ⟨HG, rfl, IS⟩ | ⟨HG, rfl, IS⟩ | ⟨HG, rfl, IS⟩ | ⟨HG, rfl, IS⟩ | ⟨rfl, IS⟩
        · go_wp2_with (first
            | (go_at_call 17; rw [IntKind.wrap_u64]; refine (digest_little.calls 9 _ 4 wa _ (hwa ▸ little4 _)).mono ?_; rintro e w5 ⟨rfl, hb⟩; have HB5 := Aside0.mk (below_step HBr.out hb); have SZ5 := Aside0.mk (Nat.le_trans SZr.out hb.size); have IS5 := Aside0.mk (IS.out.below hb); clear hb)
            | (go_at_call 19; (refine (bld_write gb gb ((⟨#[]⟩ : ByteArray)) wa _ IS5.out (by have := HSZ.out; (try simp only [ByteArray.size_append]); rw [show (⟨#[]⟩ : ByteArray).size = 0 from rfl]; omega) SZ5.out).mono ?_); rintro e w6 ⟨rfl, is6, hb⟩; have IS6 := Aside0.mk is6; have HB6 := Aside0.mk (HB5.out.trans (hb.mono GB.out)); have SZ6 := Aside0.mk (Nat.le_trans SZ5.out hb.size); clear hb is6))
          go_roundg 3
          case measure => have := HG.out; omega
          case rel => exact ⟨HB6, SZ6, (.inr (.inl ⟨⟨Nat.le_refl _⟩, rfl, IS6⟩))⟩
        · go_wp2_with (first
            | (go_at_call 17; rw [IntKind.wrap_u64]; refine (digest_little.calls 9 _ 4 wb _ (hwb ▸ little4 _)).mono ?_; rintro e w5 ⟨rfl, hb⟩; have HB5 := Aside0.mk (below_step HBr.out hb); have SZ5 := Aside0.mk (Nat.le_trans SZr.out hb.size); have IS5 := Aside0.mk (IS.out.below hb); clear hb)
            | (go_at_call 19; (refine (bld_write gb gb ((⟨#[]⟩ : ByteArray) ++ wa) wb _ IS5.out (by have := HSZ.out; (try simp only [ByteArray.size_append]); rw [show (⟨#[]⟩ : ByteArray).size = 0 from rfl]; omega) SZ5.out).mono ?_); rintro e w6 ⟨rfl, is6, hb⟩; have IS6 := Aside0.mk is6; have HB6 := Aside0.mk (HB5.out.trans (hb.mono GB.out)); have SZ6 := Aside0.mk (Nat.le_trans SZ5.out hb.size); clear hb is6))
          go_roundg 2
          case measure => have := HG.out; omega
          case rel => exact ⟨HB6, SZ6, (.inr (.inr (.inl ⟨⟨Nat.le_refl _⟩, rfl, IS6⟩)))⟩
        · go_wp2_with (first
            | (go_at_call 17; rw [IntKind.wrap_u64]; refine (digest_little.calls 9 _ 4 wc_ _ (hwc ▸ little4 _)).mono ?_; rintro e w5 ⟨rfl, hb⟩; have HB5 := Aside0.mk (below_step HBr.out hb); have SZ5 := Aside0.mk (Nat.le_trans SZr.out hb.size); have IS5 := Aside0.mk (IS.out.below hb); clear hb)
            | (go_at_call 19; (refine (bld_write gb gb ((⟨#[]⟩ : ByteArray) ++ wa ++ wb) wc_ _ IS5.out (by have := HSZ.out; (try simp only [ByteArray.size_append]); rw [show (⟨#[]⟩ : ByteArray).size = 0 from rfl]; omega) SZ5.out).mono ?_); rintro e w6 ⟨rfl, is6, hb⟩; have IS6 := Aside0.mk is6; have HB6 := Aside0.mk (HB5.out.trans (hb.mono GB.out)); have SZ6 := Aside0.mk (Nat.le_trans SZ5.out hb.size); clear hb is6))
          go_roundg 1
          case measure => have := HG.out; omega
          case rel => exact ⟨HB6, SZ6, (.inr (.inr (.inr (.inl ⟨⟨Nat.le_refl _⟩, rfl, IS6⟩))))⟩
        · go_wp2_with (first
            | (go_at_call 17; rw [IntKind.wrap_u64]; refine (digest_little.calls 9 _ 4 wd _ (hwd ▸ little4 _)).mono ?_; rintro e w5 ⟨rfl, hb⟩; have HB5 := Aside0.mk (below_step HBr.out hb); have SZ5 := Aside0.mk (Nat.le_trans SZr.out hb.size); have IS5 := Aside0.mk (IS.out.below hb); clear hb)
            | (go_at_call 19; (refine (bld_write gb gb ((⟨#[]⟩ : ByteArray) ++ wa ++ wb ++ wc_) wd _ IS5.out (by have := HSZ.out; (try simp only [ByteArray.size_append]); rw [show (⟨#[]⟩ : ByteArray).size = 0 from rfl]; omega) SZ5.out).mono ?_); rintro e w6 ⟨rfl, is6, hb⟩; have IS6 := Aside0.mk is6; have HB6 := Aside0.mk (HB5.out.trans (hb.mono GB.out)); have SZ6 := Aside0.mk (Nat.le_trans SZ5.out hb.size); clear hb is6))
          go_roundg 0
          case measure => have := HG.out; omega
          case rel => exact ⟨HB6, SZ6, (.inr (.inr (.inr (.inr ⟨rfl, IS6⟩))))⟩
        · go_wp2_with (go_at_call 20; refine (bld_string gb gb ((⟨#[]⟩ : ByteArray) ++ wa ++ wb ++ wc_ ++ wd) _ IS.out SZr.out).mono ?_; rintro e w6 ⟨rfl, hb⟩; have HB6 := Aside0.mk (HBr.out.trans (hb.mono GB.out)); clear hb)
          go_ret
          refine ⟨?_, HB6.out⟩
          rw [HF2.out]
          show Ending.returned (.string _) = _
          rw [show (⟨#[]⟩ : ByteArray) ++ wa = wa by apply ByteArray.ext; simp [ByteArray.data_append]]
    | succ n =>
      have hne : t.toList.isEmpty = false := by
        have := HTZ.out.1
        rw [ByteArray.toList_eq]
        cases ht : t.data.toList with
        | nil => have h2 : t.data.toList.length = t.size := data_length t; rw [ht] at h2; simp at h2; omega
        | cons a b => rfl
      have hl64 : (64 : Int) ≤ (t.size : Int) := by have := HTZ.out.1; omega
      go_wp2_with (first
        | ((with_reducible refine gate_dst (N := 30) rfl ?_); refine XBox.loadL_ 30 rfl rfl 37 rfl gh rfl _ BH.out hu37 rfl hi37 ?_; simp only [Act.put, List.setIfInBounds_toArray, List.set_cons_zero, List.set_cons_succ])
        | (go_at_call 18; refine (digest_state_take.calls h t (by have := HTZ.out.1; omega) _ (GL.out.below HB.out)).mono ?_; rintro e w5 ⟨rfl, hb5⟩; have HB5 := Aside0.mk (below_step HB.out hb5); have BH5 := Aside0.mk (blk_below BH.out hb5); clear hb5)
        | ((with_reducible refine gate_store (p := 5) rfl ?_); refine XBox.storeL_ rfl rfl 37 rfl gh rfl (mdC h) (mdC (takeF h t)) rfl BH5.out hi37 (Eq.refl 4) (by simp [Value.oneCell', mdC]) ?_; intro W6 hw1 hw2 hw3; have BH6 := Aside0.mk hw1; have HB6 := Aside0.mk (HB5.out.trans (hw2 _ GE.out)); clear hw1 hw2 hw3))
      go_roundg n
      case measure => have := HN.out; omega
      case rel => exact ⟨n, t.extract 64 t.size, takeF h t, ⟨by have := HTZ.out; rw [ByteArray.size_extract]; omega⟩, ⟨Nat.le_refl _⟩, rfl, ⟨HR.out⟩, BH6, HB6⟩

end Go.Proofs.YtjpcokifadaedaaDoor.X
