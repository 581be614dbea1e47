/- The law Wire4Overload: the call returns true: over what is known of the arguments' kinds: no condition. -/
import Derived.Test.YtdhmlenmnobmfaaG0
import Derived.Test.YtdhmlenmnobmfaaG1
import Derived.Test.YtdhmlenmnobmfaaG2
import Derived.Test.YtdhmlenmnobmfaaG3
import Derived.Laws.BitsAllLaws
import Derived.Lib.Strings
import Derived.Test.YtdhmlenmnobmfaaGO
import Derived.Test.YtdhmlenmnobmfaaGE
import Derived.Test.YtdhmlenmnobmfaaXWp
set_option linter.unusedVariables false
set_option linter.unusedSimpArgs false
namespace Go.Proofs.Ytdhmlenmnobmfaa.Pure
open Go.RowKit Go.Proofs.YtdhmlenmnobmfaaW.PrintWords Go.Proofs.YtdhmlenmnobmfaaW.PrintLast Go.Proofs.YtdhmlenmnobmfaaW.PrintMore Go.Proofs.Ytdhmlenmnobmfaa.X Go.Proofs.Ytdhmlenmnobmfaa.Oct Go.Proofs.Ytdhmlenmnobmfaa.Opt Go.Proofs.Ytdhmlenmnobmfaa.W4
theorem way_ok {k : Nat} (hk : 5000000 ≤ k) {m : S26} (hK : Kinds m) (x12 x13 : ByteArray) (h1 : m.f11.size = 16) (h2 : x12.size = 64) (h3 : x13.size = 128) (hg : Opt.Good m.f14) (h52 : (findL m.f14).2 = false) (v : UInt8) (hv : v = 1 ∨ v = 2 ∨ v = 3) (h : Int) (hh : h = (v.toNat : Int))
    (fs : List (List S47 × List UInt8)) (hfs : ∀ p ∈ fs, Opt.Good p.1) (hpt : ∀ f, partsV { m with f12 := x12, f13 := x13 } f (v.toNat : Int) = f :: fs.map fun p => B (outB p.1 ++ 255 :: p.2)) (hz : (outB m.f14).length ≤ 65000)
    (t w_ ax : ByteArray) (ht : t = B (preL { m with f12 := x12, f13 := x13 } ++ [99, 130, 83, 99])) (hax : ax = B (outB m.f14)) (hw : w_ = B (outB m.f14 ++ (fs.map (·.1)).flatMap outB)) (hwz : w_.size ≤ 700000)
    (hn : nameV { m with f12 := x12, f13 := x13 } (v.toNat : Int) = if h = 1 then m.f12 else z64) (hf : fileV { m with f12 := x12, f13 := x13 } (v.toNat : Int) = if h = 2 then m.f13 else z128) (A : Option Addr) (c : Nat) :
    Go.Proofs.Ytdhmlenmnobmfaa.X.Way k h z64 z128 m.f0 m.f1 m.f2 m.f3 m.f4 m.f5 m.f6 m.f7 m.f8 m.f9 m.f10 m.f11 m.f12 m.f13 A c m.f14 t w_ ax := by
  have hb : strOfNums [h] = B [v] := by
    have hc := v.toNat_lt
    rw [strOfNums_B _ (by intro x hx; obtain rfl := List.mem_singleton.1 hx; omega), hh]
    show B [b8 (v.toNat : Int)] = _
    rw [b8_byte]
  have hs : t ++ (((ax ++ (⟨#[52, 1]⟩ : ByteArray)) ++ strOfNums [h]) ++ (⟨#[255]⟩ : ByteArray)) = B (preL { m with f12 := x12, f13 := x13 } ++ ([99, 130, 83, 99] ++ (outB m.f14 ++ [52, 1, v, 255]))) := by
    rw [hb, ht, hax]
    show B _ ++ (((B _ ++ B [52, 1]) ++ B [v]) ++ B [255]) = _
    rw [B_append, B_append, B_append, B_append]
    simp only [List.append_assoc, List.cons_append, List.nil_append]
  have D := over_dec (m := { m with f12 := x12, f13 := x13 }) hK h1 h2 h3 hg h52 v hv fs hfs hpt hz
  have hdec := decode_eq (k := k) (by omega) (B (preL { m with f12 := x12, f13 := x13 } ++ ([99, 130, 83, 99] ++ (outB m.f14 ++ [52, 1, v, 255]))))
  have hpar := parse_eq (k := k) (M := 700000) (by omega) [w_] (by show 1 ≤ _; omega) (by intro y hy; obtain rfl := List.mem_singleton.1 hy; exact hwz) (by show 1 + 3 * 700000 + 200 ≤ k; omega)
  have hwant := parse_want hg (fs.map (·.1)) (fun x hx => by obtain ⟨p, hp, rfl⟩ := List.mem_map.1 hx; exact hfs p hp)
  rw [← hw] at hwant
  have hfm : (fs.map (·.1)).flatMap pcs = fs.flatMap fun p => pcs p.1 := by rw [List.flatMap_map]
  rw [hfm] at hwant
  have hgp := good_parse [w_] [] Opt.good_nil
  rw [D] at hdec
  unfold Go.Proofs.Ytdhmlenmnobmfaa.X.Way
  rw [hs]
  by_cases cnd : m.f14.length < 128 ∧ (addAll (m.f14 ++ [⟨52, B [v]⟩]) (fs.flatMap fun p => pcs p.1)).2 = 0
  · rw [if_pos cnd] at hdec
    rcases hp : parseL [] [w_] with ⟨lp, e2⟩
    rw [hp] at hpar hwant hgp
    by_cases he2 : e2 = 0
    · refine ⟨_, _, _, _, _, _, _, _, _, _, _, _, _, _, _, 0, lp, e2, hdec, hpar, .inr ⟨rfl, he2, lp.filter (fun x => !(x.f0 == 52)), ?_, ?_⟩⟩
      · unfold opt4_Without.f
        have hlp : lp.length ≤ 128 := hgp.1
        rw [if_pos (by omega)]
      · have h2' : (addAll m.f14 (fs.flatMap fun p => pcs p.1)).2 = 0 := by rw [← hwant]; exact he2
        have hlike := addAll_like (fs.flatMap fun p => pcs p.1) (m.f14 ++ [⟨52, B [v]⟩]) m.f14 (drop_app _ _) cnd.2 h2'
        rw [← hwant] at hlike
        have hlike' : drop52 (addAll (m.f14 ++ [⟨52, B [v]⟩]) (fs.flatMap fun p => pcs p.1)).1 = lp.filter (fun x => !(x.f0 == 52)) := hlike
        dsimp only
        rw [hlike', hn, hf]
        exact same_true (k := k) ⟨m.f0, m.f1, m.f2, m.f3, m.f4, m.f5, m.f6, m.f7, m.f8, m.f9, m.f10, m.f11, (if h = 1 then m.f12 else z64), (if h = 2 then m.f13 else z128), lp.filter (fun x => !(x.f0 == 52))⟩
    · exact ⟨_, _, _, _, _, _, _, _, _, _, _, _, _, _, _, 0, lp, e2, hdec, hpar, .inl ⟨.inr (by simp [he2]), .inl rfl⟩⟩
  · rw [if_neg cnd] at hdec
    rcases hp : parseL [] [w_] with ⟨lp, e2⟩
    rw [hp] at hpar
    exact ⟨_, _, _, _, _, _, _, _, _, _, _, _, _, _, _, 6, lp, e2, hdec, hpar, .inl ⟨.inl (by decide), .inr rfl⟩⟩
theorem cut_last (l : List UInt8) (c : UInt8) : (B (l ++ [c])).extract 0 ((B (l ++ [c])).size - 1) = B l := by
  apply ext_L
  rw [L_extract, L_B, L_B, size_B, List.drop_zero, Nat.sub_zero, List.length_append, List.length_singleton, Nat.add_sub_cancel, List.take_left' rfl]
theorem fld_row (l : List UInt8) (n : Nat) : fld (B (l ++ [255])) n = B (l ++ 255 :: List.replicate (n - (l.length + 1)) 0) := by
  unfold fld
  rw [L_B, size_B, List.length_append, List.length_singleton]
  congr 1
  simp only [List.append_assoc, List.singleton_append]
theorem wf_codes {l : List S47} (h : ∀ y ∈ l, wf47 y) : ∀ o ∈ l, 0 ≤ o.f0 ∧ o.f0 < 256 := fun o ho => wf_u8 (h o ho).1
theorem Wire4Overload (m : S26) (l1 l2 : List S47) (hm : wf26 m) (hw1 : l1.length * 24 ≤ 140737488351232 ∧ ∀ y_ ∈ l1, wf47 y_) (hw2 : l2.length * 24 ≤ 140737488351232 ∧ ∀ y_ ∈ l2, wf47 y_) (A14 : Option Addr) (c14 : Nat) (A1 : Option Addr) (c1 : Nat) (A2 : Option Addr) (c2 : Nat) (w : World)
    (hr : Kd.C k47 w A14 m.f14.length m.f14) (hc : m.f14.length ≤ c14) (hr1 : Kd.C k47 w A1 l1.length l1) (hc1 : l1.length ≤ c1) (hr2 : Kd.C k47 w A2 l2.length l2) (hc2 : l2.length ≤ c2) :
    Calls Try.prog 6 #[.agg #[.int .u8 m.f0, .int .u8 m.f1, .int .u8 m.f2, .int .u8 m.f3, .int .u32 m.f4, .int .u16 m.f5, .int .u16 m.f6, .int .u32 m.f7, .int .u32 m.f8, .int .u32 m.f9, .int .u32 m.f10, .string m.f11, .string m.f12, .string m.f13, .slice A14 m.f14.length c14], .slice A1 l1.length c1, .slice A2 l2.length c2] w fun e w' => e = .returned (.bool true) ∧ Below w.heap.size w w' := by
  have hK := kinds_wf hm
  obtain ⟨k, hk⟩ : ∃ k, k = 60 * (m.f14.length + l1.length + l2.length) + 6000000 := ⟨_, rfl⟩
  have haw : tenancylaw14_awake.f k = some true := awake_true (by omega)
  have hen := encode_eq (k := k) m hK (by omega)
  have ha := emit_eqV (k := k) l1 (by omega)
  have hb := emit_eqV (k := k) l2 (by omega)
  have har := emit_eqV (k := k) m.f14 (by omega)
  by_cases hgd : ((emitV l1).2 = 0 ∧ (emitV l2).2 = 0 ∧ (encV m).2 = 0 ∧ (emitV l1).1.size ≤ 128 ∧ (emitV l2).1.size ≤ 64 ∧ (encV m).1.size ≤ 60000)
  case neg => exact over_err k _ _ _ _ _ _ _ _ _ _ _ _ _ _ A14 c14 m.f14 A1 c1 l1 A2 c2 l2 _ _ _ _ _ _ w hr hc hr1 hc1 hr2 hc2 haw ha hb hen hgd
  obtain ⟨ga, gb, ge, za, zb, ze⟩ := hgd
  have hs : soundV m = true := by
    by_cases hs : soundV m = true
    · exact hs
    · rw [show encV m = (⟨#[]⟩, 141) by unfold encV; rw [if_neg hs]] at ge; exact absurd ge (by decide)
  obtain ⟨h1, h2, h3, h4, h5⟩ := soundV_iff.1 hs
  obtain ⟨g1, e1⟩ := emitV_good (wf_codes hw1.2) ga
  obtain ⟨g2, e2⟩ := emitV_good (wf_codes hw2.2) gb
  obtain ⟨g0, e0⟩ := emitV_good hK.2.2.2.2.2.2.2.2.2 h5
  have hlen := encL_length hs g0
  have hl : ¬ 65507 < (encL m).length := fun hl => by
    rw [show encV m = (⟨#[]⟩, 6) by unfold encV; rw [if_pos hs, if_pos hl]] at ge; exact absurd ge (by decide)
  have hv : encV m = (B (encL m), 0) := by unfold encV; rw [if_pos hs, if_neg hl]
  rw [hv] at hen ze
  have e1' : emitV l1 = (B (outB l1 ++ [255]), 0) := Prod.ext e1 ga
  have e2' : emitV l2 = (B (outB l2 ++ [255]), 0) := Prod.ext e2 gb
  have e0' : emitV m.f14 = (B (outB m.f14 ++ [255]), 0) := Prod.ext e0 h5
  rw [e1'] at ha za
  rw [e2'] at hb zb
  rw [e0'] at har
  have za' : (outB l1).length + 1 ≤ 128 := by have := za; rwa [size_B, List.length_append, List.length_singleton] at this
  have zb' : (outB l2).length + 1 ≤ 64 := by have := zb; rwa [size_B, List.length_append, List.length_singleton] at this
  have ze' : (encL m).length ≤ 60000 := by have := ze; rwa [size_B] at this
  have hpl := preL_length hs
  have x240 : (B (encL m)).extract 0 240 = B (preL m ++ [99, 130, 83, 99]) := by
    apply ext_L
    rw [L_extract, L_B, L_B, encL_pre, List.drop_zero, Nat.sub_zero, ← List.append_assoc, List.take_left' (by rw [List.length_append, hpl]; rfl)]
  have hax := cut_last (outB m.f14) 255
  have hay := cut_last (outB l1) 255
  have hby := cut_last (outB l2) 255
  have hfs := fld_size (B (outB l1 ++ [255])) 128 za
  have hns := fld_size (B (outB l2 ++ [255])) 64 zb
  have tF := pre_file m (B (outB l1 ++ [255])) h1 h2 h3 za [99, 130, 83, 99]
  have tN := pre_name m (B (outB l2 ++ [255])) h1 h2 zb [99, 130, 83, 99]
  have tB := pre_name { m with f13 := fld (B (outB l1 ++ [255])) 128 } (B (outB l2 ++ [255])) h1 h2 zb [99, 130, 83, 99]
  refine over_calls k z16 z64 z128 m.f0 m.f1 m.f2 m.f3 m.f4 m.f5 m.f6 m.f7 m.f8 m.f9 m.f10 m.f11 m.f12 m.f13 A14 c14 m.f14 A1 c1 l1 A2 c2 l2 (B (outB l1 ++ [255])) (B (outB l2 ++ [255])) (B (outB m.f14 ++ [255])) (B (encL m)) 0 w hr hc hr1 hc1 hr2 hc2 haw ha hb hen har
    ⟨⟨by rw [size_B, List.length_append, List.length_singleton]; omega, za⟩, ⟨by rw [size_B, List.length_append, List.length_singleton]; omega, zb⟩, ⟨by rw [size_B]; omega, ze⟩, ⟨by rw [size_B, List.length_append, List.length_singleton]; omega, by rw [size_B, List.length_append, List.length_singleton]; omega⟩⟩ blank_eq ?_ ?_ ?_
  · rw [hax, hay, x240, tF]
    refine way_ok (k := k) (by omega) hK m.f12 (fld (B (outB l1 ++ [255])) 128) h1 h2 hfs g0 h4 1 (.inl rfl) 1 rfl [(l1, List.replicate (128 - ((outB l1).length + 1)) 0)] (fun p hp => by obtain rfl := List.mem_singleton.1 hp; exact g1) (fun f => ?_) (by omega) _ _ _ rfl rfl ?_ ?_ ?_ ?_ A14 c14
    · show [f, fld (B (outB l1 ++ [255])) 128] = _
      rw [fld_row]; rfl
    · rw [B_append]; simp
    · rw [ByteArray.size_append, size_B, size_B]; omega
    · rfl
    · rfl
  · rw [hax, hby, x240, tN]
    refine way_ok (k := k) (by omega) hK (fld (B (outB l2 ++ [255])) 64) m.f13 h1 hns h3 g0 h4 2 (.inr (.inl rfl)) 2 rfl [(l2, List.replicate (64 - ((outB l2).length + 1)) 0)] (fun p hp => by obtain rfl := List.mem_singleton.1 hp; exact g2) (fun f => ?_) (by omega) _ _ _ rfl rfl ?_ ?_ ?_ ?_ A14 c14
    · show [f, fld (B (outB l2 ++ [255])) 64] = _
      rw [fld_row]; rfl
    · rw [B_append]; simp
    · rw [ByteArray.size_append, size_B, size_B]; omega
    · rfl
    · rfl
  · rw [hax, hay, hby, x240, tF, tB]
    refine way_ok (k := k) (by omega) hK (fld (B (outB l2 ++ [255])) 64) (fld (B (outB l1 ++ [255])) 128) h1 hns hfs g0 h4 3 (.inr (.inr rfl)) 3 rfl [(l1, List.replicate (128 - ((outB l1).length + 1)) 0), (l2, List.replicate (64 - ((outB l2).length + 1)) 0)] (fun p hp => by
      simp only [List.mem_cons, List.not_mem_nil, or_false] at hp
      rcases hp with rfl | rfl
      · exact g1
      · exact g2) (fun f => ?_) (by omega) _ _ _ rfl rfl ?_ ?_ ?_ ?_ A14 c14
    · show [f, fld (B (outB l1 ++ [255])) 128, fld (B (outB l2 ++ [255])) 64] = _
      rw [fld_row, fld_row]; rfl
    · rw [B_append, B_append]; simp
    · rw [ByteArray.size_append, ByteArray.size_append, size_B, size_B, size_B]; omega
    · rfl
    · rfl
end Go.Proofs.Ytdhmlenmnobmfaa.Pure
