/- Functions of the program as Lean functions, and that the calls come to them: no condition.  By this session's own program (wip/xprint). -/
import Derived.Test.YtphmbndnejhbfaaProg
import Derived.Below
import Derived.Deep.Draws
import Derived.Deep.AppendLies
import Derived.Maps.AppendAt
import Derived.OwnWalk
import Derived.Laws.BytesArg
import Derived.Laws.MakeOwn
import Derived.Laws.OwnMore
import Derived.Deep.OwnRows
import Derived.Tactics
import Derived.Lib.ConvBytes
import Derived.Laws.Slices
import Derived.WalkKit
import Derived.KernelRfl
import Derived.RowKit3
import Derived.Deep.LoopGhost
import Derived.Deep.QuietTactic
import Derived.BigQuiet
import Derived.WideLaws
import Derived.Deep.DeepCutAuto
import Derived.Deep.CutBlock
import Derived.Deep.RegionHeld3
import Derived.Laws.Rows
import Derived.Lib.AppendStr
import Derived.ArgAppend
import Derived.Laws.IdiomCopy
import Derived.OrdersHeld
import Derived.Laws.BitsLemmas
import Derived.RowKit
import Derived.Test.YtphmbndnejhbfaaXRow
import Derived.Test.YtphmbndnejhbfaaXRun
import Derived.Test.YtphmbndnejhbfaaXOrow
import Derived.Outline
import Derived.Lib.Hide
import Derived.Lib.SliceRun
import Derived.WalkSpells
import Derived.Test.YtphmbndnejhbfaaWWords
import Derived.Test.YtphmbndnejhbfaaWLast
import Derived.Test.YtphmbndnejhbfaaWTab
import Derived.Test.YtphmbndnejhbfaaWFour
import Derived.Test.YtphmbndnejhbfaaWQPut
import Derived.Test.YtphmbndnejhbfaaWApart
import Derived.Test.YtphmbndnejhbfaaWArr
import Derived.Test.YtphmbndnejhbfaaWZeros
import Derived.Test.YtphmbndnejhbfaaWFoot
import Derived.Test.YtphmbndnejhbfaaWKept
import Derived.Test.YtphmbndnejhbfaaWShare
import Derived.Test.YtphmbndnejhbfaaWN
import Derived.Test.YtphmbndnejhbfaaWFootNe
import Derived.Test.YtphmbndnejhbfaaWAt
import Derived.Test.YtphmbndnejhbfaaWEqStruct
import Derived.Test.YtphmbndnejhbfaaWRepsOne
import Derived.Test.YtphmbndnejhbfaaWInv
import Derived.Test.YtphmbndnejhbfaaWInvWords
import Derived.Test.YtphmbndnejhbfaaWGuard
import Derived.Test.YtphmbndnejhbfaaWNEv
import Derived.Test.YtphmbndnejhbfaaWMore
namespace Go.Proofs.Ytphmbndnejhbfaa.X
open Go.RowKit Go.Proofs.YtphmbndnejhbfaaW.PrintWords Go.Proofs.YtphmbndnejhbfaaW.PrintLast Go.Proofs.YtphmbndnejhbfaaW.PrintMore
attribute [local go_sem] max2_int min2_int max_two min_two max_three min_three max_four min_four   -- for this text's walks alone
set_option linter.unusedVariables false
set_option linter.unusedSimpArgs false



def errW : Option Int → Value
  | none => .nilIface
  | some c => .iface 0 (.int .i64 c)
theorem errW_none : errW none = .nilIface := rfl
theorem errW_some (c : Int) : errW (some c) = .iface 0 (.int .i64 c) := rfl

theorem info3 : (Try.prog.info? 3).map (fun i => (i.zero, i.size, i.bytes)) = some (some (.int .i64 0), 1, 8) := by kernel_rfl
theorem info5 : (Try.prog.info? 5).map (fun i => (i.zero, i.size, i.bytes)) = some (some (.int .u8 0), 1, 1) := by kernel_rfl
theorem info9 : (Try.prog.info? 9).map (fun i => (i.zero, i.size, i.bytes)) = some (some (.string ⟨#[]⟩), 1, 16) := by kernel_rfl
theorem info42 : (Try.prog.info? 42).map (fun i => (i.zero, i.size, i.bytes)) = some (some (.agg #[(.int .u8 0), (.string ⟨#[]⟩)]), 2, 24) := by kernel_rfl
-- the values' own types
/-! #### struct type 42 -/
structure S42 where
  f0 : Int
  f1 : ByteArray
def z42 : S42 := ⟨(0 : Int), (⟨#[]⟩ : ByteArray)⟩
def k42 : Kd S42 := Kd.iso (Kd.pair (Kd.int .u8) Kd.string) (fun x : S42 => (x.f0, x.f1))
theorem k42_open {w : World} {x : S42} {cs : List Value} (h : k42.K w x cs) : cs = [.int .u8 x.f0, .string x.f1] := by
  obtain ⟨_, _, rfl, rfl, rfl⟩ := h
  exact rfl
theorem k42_openM {w : World} {base : Nat} {ok : Nat → Prop} {x : S42} {cs : List Value} (h : k42.M w base ok x cs) : cs = [.int .u8 x.f0, .string x.f1] := by
  obtain ⟨_, _, rfl, rfl, rfl⟩ := h
  exact rfl
theorem k42_mk (w : World) (x : S42)  : k42.K w x [.int .u8 x.f0, .string x.f1] := ⟨[.int .u8 x.f0], [.string x.f1], rfl, rfl, rfl⟩
theorem k42_mkM (w : World) (base : Nat) (ok : Nat → Prop) (x : S42)  : k42.M w base ok x [.int .u8 x.f0, .string x.f1] := ⟨[.int .u8 x.f0], [.string x.f1], rfl, rfl, rfl⟩
def rd_T42 (xs : List S42) (i : Int) : S42 := xs.getD i.toNat z42
theorem at_T42 {w : World} {A : Option Addr} {n : Nat} {xs : List S42} (h : Kd.C k42 w A n xs) (i : Int) (h0 : 0 ≤ i) (h1 : i < n) : ∃ ad , A = some ad ∧ w.cell? (ad.add (i.toNat * 2)) = some (.int .u8 (rd_T42 xs i).f0) ∧ w.cell? ⟨(ad.add (i.toNat * 2)).block, (ad.add (i.toNat * 2)).off + 1, none⟩ = some (.string (rd_T42 xs i).f1) := by
  obtain ⟨ad, c, e, _, hK, hc0⟩ := Kd.C_get h z42 i h0 h1
  have hc : ∀ j u, c[j]? = some u → w.cell? (ad.add (i.toNat * 2 + j)) = some u := hc0
  obtain rfl := k42_open hK
  exact ⟨ad, e, hc 0 _ rfl, by rw [← add_field _ _ 1 (by omega)]; exact hc 1 _ rfl⟩

def rd_L3 (xs : List (List S42)) (i : Int) : (List S42) := xs.getD i.toNat ([] : List S42)
theorem at_L3 {w : World} {A : Option Addr} {n : Nat} {xs : List (List S42)} (h : Kd.C (Kd.slice 42 k42) w A n xs) (i : Int) (h0 : 0 ≤ i) (h1 : i < n) : ∃ ad A0 c0, A = some ad ∧ w.cell? (ad.add i.toNat) = some (.slice A0 (rd_L3 xs i).length c0) ∧ (rd_L3 xs i).length ≤ c0 ∧ k42.C w A0 (rd_L3 xs i).length (rd_L3 xs i) := by
  obtain ⟨ad, c, e, _, hK, hc0⟩ := Kd.C_get h ([] : List S42) i h0 h1
  have hc : ∀ j u, c[j]? = some u → w.cell? (ad.add (i.toNat * 1 + j)) = some u := hc0
  obtain ⟨A0, c0, rfl, l0, g0⟩ := hK
  exact ⟨ad, A0, c0, e, by have hq := hc 0 _ rfl; rwa [Nat.mul_one, Nat.add_zero] at hq, l0, g0⟩

def rd_L4 (xs : List (List ByteArray)) (i : Int) : (List ByteArray) := xs.getD i.toNat ([] : List ByteArray)
theorem at_L4 {w : World} {A : Option Addr} {n : Nat} {xs : List (List ByteArray)} (h : Kd.C (Kd.slice 9 Kd.string) w A n xs) (i : Int) (h0 : 0 ≤ i) (h1 : i < n) : ∃ ad A0 c0, A = some ad ∧ w.cell? (ad.add i.toNat) = some (.slice A0 (rd_L4 xs i).length c0) ∧ (rd_L4 xs i).length ≤ c0 ∧ Kd.string.C w A0 (rd_L4 xs i).length (rd_L4 xs i) := by
  obtain ⟨ad, c, e, _, hK, hc0⟩ := Kd.C_get h ([] : List ByteArray) i h0 h1
  have hc : ∀ j u, c[j]? = some u → w.cell? (ad.add (i.toNat * 1 + j)) = some u := hc0
  obtain ⟨A0, c0, rfl, l0, g0⟩ := hK
  exact ⟨ad, A0, c0, e, by have hq := hc 0 _ rfl; rwa [Nat.mul_one, Nat.add_zero] at hq, l0, g0⟩

def rd_L6 (xs : List (List Int)) (i : Int) : (List Int) := xs.getD i.toNat ([] : List Int)
theorem at_L6 {w : World} {A : Option Addr} {n : Nat} {xs : List (List Int)} (h : Kd.C (Kd.slice 3 (Kd.int .i64)) w A n xs) (i : Int) (h0 : 0 ≤ i) (h1 : i < n) : ∃ ad A0 c0, A = some ad ∧ w.cell? (ad.add i.toNat) = some (.slice A0 (rd_L6 xs i).length c0) ∧ (rd_L6 xs i).length ≤ c0 ∧ (Kd.int .i64).C w A0 (rd_L6 xs i).length (rd_L6 xs i) := by
  obtain ⟨ad, c, e, _, hK, hc0⟩ := Kd.C_get h ([] : List Int) i h0 h1
  have hc : ∀ j u, c[j]? = some u → w.cell? (ad.add (i.toNat * 1 + j)) = some u := hc0
  obtain ⟨A0, c0, rfl, l0, g0⟩ := hK
  exact ⟨ad, A0, c0, e, by have hq := hc 0 _ rfl; rwa [Nat.mul_one, Nat.add_zero] at hq, l0, g0⟩

/-! ### opt4.has, its literal, and slices.IndexFunc, ContainsFunc over it: by hand -/
def idxOf (c : Int) : List S42 → Nat → Int
  | [], _ => -1
  | x :: l, i => if x.f0 = c then (i : Int) else idxOf c l (i + 1)
theorem idxOf_at (c : Int) : ∀ (l : List S42) (i j : Nat), j < l.length → (∀ q, q < j → (l.getD q z42).f0 ≠ c) → (l.getD j z42).f0 = c → idxOf c l i = ((i + j : Nat) : Int)
  | [], i, j, h, _, _ => by simp at h
  | x :: l, i, 0, h, _, h2 => by
    have : x.f0 = c := by simpa using h2
    rw [idxOf, if_pos this]; rfl
  | x :: l, i, j + 1, h, h1, h2 => by
    have h0 : ¬ x.f0 = c := by simpa using h1 0 (by omega)
    rw [idxOf, if_neg h0, idxOf_at c l (i + 1) j (by simpa using h) (fun q hq => by simpa using h1 (q + 1) (by omega)) (by simpa using h2)]
    congr 1; omega
theorem idxOf_none (c : Int) : ∀ (l : List S42) (i : Nat), (∀ q, q < l.length → (l.getD q z42).f0 ≠ c) → idxOf c l i = -1
  | [], i, _ => rfl
  | x :: l, i, h1 => by
    have h0 : ¬ x.f0 = c := by simpa using h1 0 (by simp)
    rw [idxOf, if_neg h0]
    exact idxOf_none c l (i + 1) (fun q hq => by simpa using h1 (q + 1) (by simpa using hq))

/-- The closure's value: its captured code lies at block g. -/
def cloV (g : Nat) : Value := .func (.func 27) #[] #[.pointer (some ⟨g, 0, none⟩)]
theorem has_lit (c code : Int) (d : ByteArray) (g : Nat) (w : World) (hg : w.heap[g]? = some (.cells #[.int .u8 code] 5 (0, 0))) :
    Calls Try.prog 27 #[.agg #[.int .u8 c, .string d], .pointer (some ⟨g, 0, none⟩)] w fun e w' => e = .returned (.bool (c == code)) ∧ Below w.heap.size w w' := by
  have hlt : g < w.heap.size := blk_lt hg
  have hc : w.cell? ⟨g, 0, none⟩ = some (.int .u8 code) := (blk_cell hg 0).trans rfl
  have hu := Try.underlying42
  have hc2 : ∀ o, (w.alloc o).cell? ⟨g, 0, none⟩ = some (.int .u8 code) := fun o => (World.cell?_of_block (Below.heap_alloc w o g hlt)).trans hc
  clear hc
  have HG := Aside0.mk hg
  have HL := Aside0.mk hlt
  clear hg hlt
  go_enter Try.func27, Try.ntmps27
  go_wp2
  go_ret
  exact ⟨rfl, below_alloc (Below.refl _ _) _⟩
theorem has_makes (c : Int) (w : World) :
    Calls Try.prog 21 #[.int .u8 c] w fun e w' => ∃ g, e = .returned (cloV g) ∧ w'.heap[g]? = some (.cells #[.int .u8 c] 5 (0, 0)) ∧ w.heap.size ≤ g ∧ Below w.heap.size w w' := by
  go_enter Try.func21, Try.ntmps21
  go_wp2
  go_ret
  refine ⟨w.heap.size, rfl, ?_, Nat.le_refl _, below_alloc (Below.refl _ _) _⟩
  exact heap_alloc_new w _
theorem enters_has : ∀ args w, (callFunc 27 args).run Try.prog w = .ok (.enter 27 args) w := fun args w => enters_ Try.func27 (by kernel_rfl) rfl args w
set_option maxHeartbeats 1000000 in
theorem index_has (code : Int) (g : Nat) (A : Option Addr) (n c : Nat) (l : List S42) (w : World) (hr : Kd.C k42 w A n l) (hg : w.heap[g]? = some (.cells #[.int .u8 code] 5 (0, 0))) :
    Calls Try.prog 23 #[.slice A n c, cloV g] w fun e w' => e = .returned (.int .i64 (idxOf code l 0)) ∧ Below w.heap.size w w' := by
  have hn : n ≤ 9223372036854775807 := Kd.C_max hr
  have hln : l.length = n := Kd.C_len hr
  have HLN := Lib.hid hln
  clear hln
  have HR := Aside0.mk hr
  have HG := Aside0.mk hg
  clear hr hg
  unfold cloV
  have hu := Try.underlying42
  have eg := enters_has
  go_enter Try.func23, Try.ntmps23
  go_wp2
  go_loopg [5, 8] n (fun gg _ s8 wr => ∃ kk : Nat, kk ≤ n ∧ n - kk ≤ gg ∧ s8 = .int .i64 kk ∧ Aside0 (Below w.heap.size w wr) ∧ Aside0 (∀ q, q < kk → (l.getD q z42).f0 ≠ code))
  case atStart => exact ⟨0, Nat.zero_le _, by omega, rfl, ⟨Below.refl _ w⟩, ⟨fun j hj => absurd hj (Nat.not_lt_zero _)⟩⟩
  case round =>
    obtain ⟨kk, hkk, hgk, rfl, BW, AL⟩ := hrel
    by_cases hlt : kk < n
    · have hltz : (kk : Int) < (n : Int) := by omega
      obtain ⟨ad, rfl, hc0, hc1⟩ := at_T42 (Kd.C_below HR.out BW.out) (kk : Int) (by omega) hltz
      simp only [Int.toNat_natCast] at hc0 hc1
      have hcall := has_lit (rd_T42 l kk).f0 code (rd_T42 l kk).f1 g wr ((BW.out.block g (blk_lt HG.out)).trans HG.out)
      have hrd : rd_T42 l kk = l.getD kk z42 := rfl
      have HRD := Lib.hid hrd
      clear hrd
      by_cases hq : (rd_T42 l kk).f0 = code
      · have hqb : ((rd_T42 l kk).f0 == code) = true := beq_iff_eq.2 hq
        rw [hqb] at hcall
        have HQ := Lib.hid hq
        clear hq hqb
        go_wp2_with (go_at_call 27; refine hcall.mono ?_; rintro e w' ⟨rfl, hb'⟩)
        go_ret
        rename_i w' hb'
        refine ⟨?_, below_step BW.out hb'⟩
        rw [idxOf_at code l 0 kk (by rw [HLN.out]; exact hlt) AL.out (by rw [← HRD.out]; exact HQ.out), Nat.zero_add]
        rfl
      · have hqb : ((rd_T42 l kk).f0 == code) = false := beq_eq_false_iff_ne.2 hq
        rw [hqb] at hcall
        have HQ := Aside0.mk hq
        clear hq hqb
        go_wp2_with (go_at_call 27; refine hcall.mono ?_; rintro e w' ⟨rfl, hb'⟩)
        go_roundg (n - (kk + 1))
        case measure => omega
        case rel =>
          rename_i w' hb'
          refine ⟨kk + 1, by omega, Nat.le_refl _, by go_num, ⟨below_step BW.out hb'⟩, ⟨fun q hq => ?_⟩⟩
          by_cases e : q = kk
          · subst e; rw [← HRD.out]; exact HQ.out
          · exact AL.out q (by omega)
    · have hltz : ¬ (kk : Int) < (n : Int) := by omega
      obtain rfl : kk = n := by omega
      go_wp2
      go_ret
      refine ⟨?_, BW.out⟩
      rw [idxOf_none code l 0 (by rw [HLN.out]; exact AL.out)]
      rfl
theorem contains_has (code : Int) (g : Nat) (A : Option Addr) (n c : Nat) (l : List S42) (w : World) (hr : Kd.C k42 w A n l) (hg : w.heap[g]? = some (.cells #[.int .u8 code] 5 (0, 0))) :
    Calls Try.prog 20 #[.slice A n c, cloV g] w fun e w' => e = .returned (.bool (decide (0 ≤ idxOf code l 0))) ∧ Below w.heap.size w w' := by
  have hi := index_has code g A n c l w hr hg
  clear hr hg
  unfold cloV at hi ⊢
  go_enter Try.func20, Try.ntmps20
  go_wp2_with (go_at_call 23; refine hi.mono ?_; rintro e w' ⟨rfl, hb'⟩)
  go_ret
  exact ⟨rfl, by assumption⟩

/-! has and slices.IndexFunc, ContainsFunc, as one -/
def hasix.f (a0 : Int) (l0 : List S42) : Option Int := some (idxOf a0 l0 0)
theorem hasix.calls (a0 : Int) (A0 : Option Addr) (c0 : Nat) (l0 : List S42) (r : Int) (w : World) (hr0 : Kd.C k42 w A0 l0.length l0) (hc0 : l0.length ≤ c0) (h : hasix.f a0 l0 = some r) :
    XRun.Calls2 Try.prog 21 #[.int .u8 a0] 23 (fun v_ => #[.slice A0 l0.length c0, v_]) w fun e w' => e = .returned (.int .i64 r) ∧ Below w.heap.size w w' := by
  obtain rfl := Option.some.inj h
  refine (has_makes a0 w).mono ?_
  rintro e w1 ⟨g, rfl, hg, hgw, hb⟩
  refine ⟨_, rfl, (index_has a0 g A0 l0.length c0 l0 w1 (Kd.C_below hr0 hb) hg).mono ?_⟩
  rintro e w2 ⟨rfl, hb2⟩
  exact ⟨rfl, below_step hb hb2⟩
theorem hasix.second (a0 : Int) (A0 : Option Addr) (c0 : Nat) (l0 : List S42) (r : Int) (w : World) (hr0 : Kd.C k42 w A0 l0.length l0) (hc0 : l0.length ≤ c0) (g : Nat) (hg : w.heap[g]? = some (.cells #[.int .u8 a0] 5 (0, 0))) (h : hasix.f a0 l0 = some r) :
    Calls Try.prog 23 #[.slice A0 l0.length c0, cloV g] w fun e w' => e = .returned (.int .i64 r) ∧ Below w.heap.size w w' := by
  obtain rfl := Option.some.inj h
  exact index_has a0 g A0 l0.length c0 l0 w hr0 hg

def hascon.f (a0 : Int) (l0 : List S42) : Option Bool := some (decide (0 ≤ idxOf a0 l0 0))
theorem hascon.calls (a0 : Int) (A0 : Option Addr) (c0 : Nat) (l0 : List S42) (r : Bool) (w : World) (hr0 : Kd.C k42 w A0 l0.length l0) (hc0 : l0.length ≤ c0) (h : hascon.f a0 l0 = some r) :
    XRun.Calls2 Try.prog 21 #[.int .u8 a0] 20 (fun v_ => #[.slice A0 l0.length c0, v_]) w fun e w' => e = .returned (.bool r) ∧ Below w.heap.size w w' := by
  obtain rfl := Option.some.inj h
  refine (has_makes a0 w).mono ?_
  rintro e w1 ⟨g, rfl, hg, hgw, hb⟩
  refine ⟨_, rfl, (contains_has a0 g A0 l0.length c0 l0 w1 (Kd.C_below hr0 hb) hg).mono ?_⟩
  rintro e w2 ⟨rfl, hb2⟩
  exact ⟨rfl, below_step hb hb2⟩
theorem hascon.second (a0 : Int) (A0 : Option Addr) (c0 : Nat) (l0 : List S42) (r : Bool) (w : World) (hr0 : Kd.C k42 w A0 l0.length l0) (hc0 : l0.length ≤ c0) (g : Nat) (hg : w.heap[g]? = some (.cells #[.int .u8 a0] 5 (0, 0))) (h : hascon.f a0 l0 = some r) :
    Calls Try.prog 20 #[.slice A0 l0.length c0, cloV g] w fun e w' => e = .returned (.bool r) ∧ Below w.heap.size w w' := by
  obtain rfl := Option.some.inj h
  exact contains_has a0 g A0 l0.length c0 l0 w hr0 hg

def wf42 (x : S42) : Prop := ((Lit.int .u8 x.f0).wf = true) ∧ (x.f1.size ≤ 140737488351232)
theorem opens42 : XRow.Opens Try.prog 42 k42 wf42 := XRow.opens_iso (fun x_ : S42 => (x_.f0, x_.f1)) (fun p_ => ⟨p_.1, p_.2⟩) (fun _ => rfl) (XRow.opens_struct (total := 2) Try.underlying42 (by kernel_rfl) (XRow.opensF_cons (k := 1) rfl (by kernel_rfl) (by decide) (by decide) (XRow.opens_int Try.underlying5) (XRow.opensF_one rfl (by kernel_rfl) (XRow.opens_string Try.underlying9))))
end Go.Proofs.Ytphmbndnejhbfaa.X
