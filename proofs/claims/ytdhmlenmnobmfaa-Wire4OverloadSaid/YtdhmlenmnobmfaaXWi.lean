/- What writing a message of DHCPv4 comes to, over lists of bytes: plain lemmas; conditions: the fields are of their kinds. -/
import Derived.Test.YtdhmlenmnobmfaaG0
import Derived.Test.YtdhmlenmnobmfaaG1
import Derived.Test.YtdhmlenmnobmfaaG2
import Derived.Test.YtdhmlenmnobmfaaG3
import Derived.Laws.BitsAllLaws
import Derived.Lib.Strings
import Derived.Test.YtdhmlenmnobmfaaXOpt4
set_option linter.unusedVariables false
set_option linter.unusedSimpArgs false
namespace Go.Proofs.Ytdhmlenmnobmfaa.W4
open Go.RowKit Go.Proofs.YtdhmlenmnobmfaaW.PrintWords Go.Proofs.YtdhmlenmnobmfaaW.PrintLast Go.Proofs.YtdhmlenmnobmfaaW.PrintMore Go.Proofs.Ytdhmlenmnobmfaa.X Go.Proofs.Ytdhmlenmnobmfaa.Oct Go.Proofs.Ytdhmlenmnobmfaa.Opt

/-- What the fields' kinds say. -/
def Kinds (m : S26) : Prop := (0 ≤ m.f0 ∧ m.f0 < 256 ∧ 0 ≤ m.f1 ∧ m.f1 < 256 ∧ 0 ≤ m.f2 ∧ m.f2 < 256 ∧ 0 ≤ m.f3 ∧ m.f3 < 256) ∧ (0 ≤ m.f4 ∧ m.f4 < 4294967296) ∧ (0 ≤ m.f5 ∧ m.f5 < 65536) ∧ (0 ≤ m.f6 ∧ m.f6 < 65536) ∧
  (0 ≤ m.f7 ∧ m.f7 < 4294967296) ∧ (0 ≤ m.f8 ∧ m.f8 < 4294967296) ∧ (0 ≤ m.f9 ∧ m.f9 < 4294967296) ∧ (0 ≤ m.f10 ∧ m.f10 < 4294967296) ∧ (m.f14.length ≤ 140737488351232 ∧ ∀ o ∈ m.f14, 0 ≤ o.f0 ∧ o.f0 < 256)
theorem kinds_wf {m : S26} (h : wf26 m) : Kinds m := by
  obtain ⟨h0, h1, h2, h3, h4, h5, h6, h7, h8, h9, h10, h11, h12, h13, h14, h15⟩ := h
  have g0 := wf_u8 h0; have g1 := wf_u8 h1; have g2 := wf_u8 h2; have g3 := wf_u8 h3
  exact ⟨⟨g0.1, g0.2, g1.1, g1.2, g2.1, g2.2, g3.1, g3.2⟩, wf_u32 h4, wf_u16 h5, wf_u16 h6, wf_u32 h7, wf_u32 h8, wf_u32 h9, wf_u32 h10, by omega, fun o ho => wf_u8 (h15 o ho).1⟩
/-- An option's data. -/
def findL (l : List S47) : ByteArray × Bool := if idxOf 52 l 0 < 0 then (⟨#[]⟩, false) else ((rd_T47 l (idxOf 52 l 0)).f1, true)
theorem find52 (l : List S47) : opt4_Find.f l 52 = some (findL l) := by
  unfold opt4_Find.f findL
  rw [hasix.f, Option.bind_some]
  rcases idx_cases 52 l with ⟨e, _⟩ | ⟨j, hj, e, _⟩
  · rw [if_pos (by omega), if_pos (by omega)]
  · rw [if_neg (show ¬ idxOf 52 l 0 < 0 by omega), if_pos (show 0 ≤ idxOf 52 l 0 by omega), if_pos (show idxOf 52 l 0 < (l.length : Int) by omega), if_neg (show ¬ idxOf 52 l 0 < 0 by omega)]
theorem findL_none {l : List S47} (h : (findL l).2 = false) : ∀ o ∈ l, o.f0 ≠ 52 := by
  unfold findL at h
  rcases idx_cases 52 l with ⟨e, h2⟩ | ⟨j, hj, e, _⟩
  · exact h2
  · rw [if_neg (by omega)] at h; cases h
/-- The options as an area. -/
def emitV (l : List S47) : ByteArray × Int := if 128 < l.length then (⟨#[]⟩, 6) else emitS l l.length 0 []
theorem emit_eqV {k : Nat} (l : List S47) (hk : 60 * l.length + 60 ≤ k) : opt4_Emit.f k l = some (emitV l) := emit_eq l hk
theorem emitV_good {l : List S47} (hw : ∀ o ∈ l, 0 ≤ o.f0 ∧ o.f0 < 256) (h : (emitV l).2 = 0) : Opt.Good l ∧ (emitV l).1 = B (outB l ++ [255]) := by
  unfold emitV at h ⊢
  by_cases hl : 128 < l.length
  · rw [if_pos hl] at h; cases h
  rw [if_neg hl] at h ⊢
  have hg := bad_good (by omega) hw (fun j hj => emitS_zero l.length 0 [] (by omega) h j (Nat.zero_le _) hj)
  refine ⟨hg, ?_⟩
  rw [emitS_good hg l.length 0 [] (by omega) (by omega), List.drop_zero, List.nil_append]
  exact (out_bytes hg).1
theorem good_emitV {l : List S47} (hg : Opt.Good l) : emitV l = (B (outB l ++ [255]), 0) := by
  unfold emitV
  rw [if_neg (by have := hg.1; omega), emitS_good hg l.length 0 [] (by omega) (by omega), List.drop_zero, List.nil_append, (out_bytes hg).1]
/-- Whether m is a message. -/
def soundV (m : S26) : Bool := decide (m.f11.size = 16 ∧ m.f12.size = 64 ∧ m.f13.size = 128 ∧ (findL m.f14).2 = false ∧ (emitV m.f14).2 = 0)
theorem sound_eq {k : Nat} (m : S26) (hk : 60 * m.f14.length + 60 ≤ k) : wire4_Sound.f k m.f0 m.f1 m.f2 m.f3 m.f4 m.f5 m.f6 m.f7 m.f8 m.f9 m.f10 m.f11 m.f12 m.f13 m.f14 = some (soundV m) := by
  unfold wire4_Sound.f soundV
  rw [find52, Option.bind_some, emit_eqV m.f14 hk, Option.bind_some]
  show (if (m.f11.size : Int) = 16 then (if (m.f12.size : Int) = 64 then (if (m.f13.size : Int) = 128 then (if (findL m.f14).2 = true then some false else some ((emitV m.f14).2 == 0)) else _) else _) else _) = _
  by_cases h1 : m.f11.size = 16
  · rw [if_pos (by omega)]
    by_cases h2 : m.f12.size = 64
    · rw [if_pos (by omega)]
      by_cases h3 : m.f13.size = 128
      · rw [if_pos (by omega)]
        cases h4 : (findL m.f14).2
        · rw [if_neg (by decide)]
          by_cases h5 : (emitV m.f14).2 = 0
          · rw [decide_eq_true ⟨h1, h2, h3, rfl, h5⟩]; simp [h5]
          · rw [decide_eq_false (fun h => h5 h.2.2.2.2)]; simp [h5]
        · rw [if_pos rfl, decide_eq_false (fun h => by cases h.2.2.2.1)]
      · rw [if_neg (by omega), decide_eq_false (fun h => h3 h.2.2.1)]
    · rw [if_neg (by omega), decide_eq_false (fun h => h2 h.2.1)]
  · rw [if_neg (by omega), decide_eq_false (fun h => h1 h.1)]
theorem soundV_iff {m : S26} : soundV m = true ↔ (m.f11.size = 16 ∧ m.f12.size = 64 ∧ m.f13.size = 128 ∧ (findL m.f14).2 = false ∧ (emitV m.f14).2 = 0) := by unfold soundV; exact decide_eq_true_iff
/-- The fields ahead of the strings. -/
def numsL (m : S26) : List UInt8 := [b8 m.f0, b8 m.f1, b8 m.f2, b8 m.f3] ++ be4 m.f4 ++ be2 m.f5 ++ be2 m.f6 ++ be4 m.f7 ++ be4 m.f8 ++ be4 m.f9 ++ be4 m.f10
/-- A message's bytes. -/
def encL (m : S26) : List UInt8 := numsL m ++ L m.f11 ++ L m.f12 ++ L m.f13 ++ [99, 130, 83, 99] ++ (outB m.f14 ++ [255])
def encV (m : S26) : ByteArray × Int := if soundV m = true then (if 65507 < (encL m).length then (⟨#[]⟩, 6) else (B (encL m), 0)) else (⟨#[]⟩, 141)
theorem four {a b c d : Int} (ha : 0 ≤ a ∧ a < 256 ∧ 0 ≤ b ∧ b < 256 ∧ 0 ≤ c ∧ c < 256 ∧ 0 ≤ d ∧ d < 256) : strOfNums [a, b, c, d] = B [b8 a, b8 b, b8 c, b8 d] := by
  rw [strOfNums_B _ (fun x hx => by simp at hx; omega)]; rfl
theorem encL_length {m : S26} (h : soundV m = true) (hg : Opt.Good m.f14) : (encL m).length = 241 + (outB m.f14).length := by
  obtain ⟨h1, h2, h3, _⟩ := soundV_iff.1 h
  rw [size_L] at h1 h2 h3
  simp only [encL, numsL, List.length_append, be4_length, be2_length, List.length_cons, List.length_nil]
  omega
theorem body_eq (m : S26) (hK : Kinds m) (hem : (emitV m.f14).2 = 0) :
    ((((((((((((strOfNums [m.f0, m.f1, m.f2, m.f3] ++ B (be4 m.f4)) ++ B (be2 m.f5)) ++ B (be2 m.f6)) ++ B (be4 m.f7)) ++ B (be4 m.f8)) ++ B (be4 m.f9)) ++ B (be4 m.f10)) ++ m.f11) ++ m.f12) ++ m.f13) ++ (⟨#[99, 130, 83, 99]⟩ : ByteArray)) ++ (emitV m.f14).1) = B (encL m) := by
  rw [four hK.1, (emitV_good hK.2.2.2.2.2.2.2.2.2 hem).2]
  apply ext_L
  simp only [L_append, L_B, encL, numsL, List.append_assoc]
  rfl
theorem encode_eq {k : Nat} (m : S26) (hK : Kinds m) (hk : 60 * m.f14.length + 60 ≤ k) : wire4_Encode.f k m.f0 m.f1 m.f2 m.f3 m.f4 m.f5 m.f6 m.f7 m.f8 m.f9 m.f10 m.f11 m.f12 m.f13 m.f14 = some (encV m) := by
  obtain ⟨h0, h4, h5, h6, h7, h8, h9, h10, hl, hw⟩ := id hK
  unfold wire4_Encode.f encV
  rw [sound_eq m hk, Option.bind_some]
  by_cases hs : soundV m = true
  · rw [if_pos hs, if_pos hs, if_pos h0, Put32 (by omega) _ h4.1 h4.2, Option.bind_some, Put16 (by omega) _ h5.1 h5.2, Option.bind_some, Put16 (by omega) _ h6.1 h6.2, Option.bind_some,
      Put32 (by omega) _ h7.1 h7.2, Option.bind_some, Put32 (by omega) _ h8.1 h8.2, Option.bind_some, Put32 (by omega) _ h9.1 h9.2, Option.bind_some, Put32 (by omega) _ h10.1 h10.2, Option.bind_some, emit_eqV m.f14 hk, Option.bind_some]
    have hem := (soundV_iff.1 hs).2.2.2.2
    have hg := (emitV_good hw hem).1
    have hb := body_eq m hK hem
    have hlen := encL_length hs hg
    have ho := (out_bytes hg).2
    rw [hb, if_pos (by rw [size_B]; omega)]
    by_cases hb2 : 65507 < (encL m).length
    · rw [if_pos (by rw [size_B]; omega), if_pos hb2]
    · rw [if_neg (by rw [size_B]; omega), if_neg hb2]
  · rw [if_neg hs, if_neg hs]
end Go.Proofs.Ytdhmlenmnobmfaa.W4
