/- Functions of the program as Lean functions, and that the calls come to them: no condition.  By this session's own program (wip/xprint). -/
import Derived.Test.YtdhmlenmnobmfaaG0
import Derived.Test.YtdhmlenmnobmfaaG1
import Derived.Test.YtdhmlenmnobmfaaG2
import Derived.Test.YtdhmlenmnobmfaaG3
import Derived.Test.YtdhmlenmnobmfaaG7
namespace Go.Proofs.Ytdhmlenmnobmfaa.X
open Go.RowKit Go.Proofs.YtdhmlenmnobmfaaW.PrintWords Go.Proofs.YtdhmlenmnobmfaaW.PrintLast Go.Proofs.YtdhmlenmnobmfaaW.PrintMore
attribute [local go_sem] max2_int min2_int max_two min_two max_three min_three max_four min_four   -- for this text's walks alone
set_option linter.unusedVariables false
set_option linter.unusedSimpArgs false
theorem rset26 {α : Type} {d : Kd α} {e base : Nat} {ok : Nat → Prop} {w : World} {v : Value} {xs : List α} (h : d.R e w base ok v xs) {g t : Nat} {cells : Array Value} (hb : w.heap[g]? = some (.cells cells t (0, 0))) (ht : ∀ q, q ∈ e :: d.E → q ≠ t) (j : Nat) (u : Value) : d.R e (w.setCell ⟨g, j, none⟩ u) base ok v xs :=
  Kd.R_mono (Kd.R_far (p := ⟨g, j, none⟩) (Kd.R_types h hb ht) (fun _ hk => hk.2) u) (fun _ hk => hk.1)
/-! ### tenancyref14_Decode: function 17 -/
mutual
def tenancyref14_Decode.j0 : Nat → List ByteArray → ByteArray → Bool → Bool → Int → Int → Int → Int → Int → Int → Int → Int → Int → Int → Int → ByteArray → ByteArray → ByteArray → Option (Int × Int × Int × Int × Int × Int × Int × Int × Int × Int × Int × ByteArray × ByteArray × ByteArray × (List (S47)) × Int)
  | 0, _, _, _, _, _, _, _, _, _, _, _, _, _, _, _, _, _, _ => none
  | k + 1, x5, x8, x9, x102, x237000, x237001, x237002, x237003, x237004, x237005, x237006, x237007, x237008, x237009, x237010, x237011, x237012, x237013 => if x102 = true then (some (0, 0, 0, 0, 0, 0, 0, 0, 0, 0, 0, (⟨#[]⟩ : ByteArray), (⟨#[]⟩ : ByteArray), (⟨#[]⟩ : ByteArray), ([] : List (S47)), 130)) else (if x9 = true then (if 0 < (x8.size : Int) then (tenancyref14_Decode.j1 k x5 x8 x9 ((Int.tmod (bt x8 0) 2) == 1) x237000 x237001 x237002 x237003 x237004 x237005 x237006 x237007 x237008 x237009 x237010 x237011 x237012 x237013) else (none)) else (tenancyref14_Decode.j1 k x5 x8 x9 false x237000 x237001 x237002 x237003 x237004 x237005 x237006 x237007 x237008 x237009 x237010 x237011 x237012 x237013))
def tenancyref14_Decode.j1 : Nat → List ByteArray → ByteArray → Bool → Bool → Int → Int → Int → Int → Int → Int → Int → Int → Int → Int → Int → ByteArray → ByteArray → ByteArray → Option (Int × Int × Int × Int × Int × Int × Int × Int × Int × Int × Int × ByteArray × ByteArray × ByteArray × (List (S47)) × Int)
  | 0, _, _, _, _, _, _, _, _, _, _, _, _, _, _, _, _, _, _ => none
  | k + 1, x5, x8, x9, x110, x237000, x237001, x237002, x237003, x237004, x237005, x237006, x237007, x237008, x237009, x237010, x237011, x237012, x237013 => if x110 = true then (if x5.length < 8796093022208 then ((tenancyref14_zeros.f 128).bind fun t254 => (tenancyref14_Decode.j2 k (x5 ++ [x237013]) x8 x9 x237000 x237001 x237002 x237003 x237004 x237005 x237006 x237007 x237008 x237009 x237010 x237011 x237012 t254)) else (none)) else (tenancyref14_Decode.j2 k x5 x8 x9 x237000 x237001 x237002 x237003 x237004 x237005 x237006 x237007 x237008 x237009 x237010 x237011 x237012 x237013)
def tenancyref14_Decode.j2 : Nat → List ByteArray → ByteArray → Bool → Int → Int → Int → Int → Int → Int → Int → Int → Int → Int → Int → ByteArray → ByteArray → ByteArray → Option (Int × Int × Int × Int × Int × Int × Int × Int × Int × Int × Int × ByteArray × ByteArray × ByteArray × (List (S47)) × Int)
  | 0, _, _, _, _, _, _, _, _, _, _, _, _, _, _, _, _, _ => none
  | k + 1, x5, x8, x9, x237000, x237001, x237002, x237003, x237004, x237005, x237006, x237007, x237008, x237009, x237010, x237011, x237012, x237013 => if x9 = true then (if 0 < (x8.size : Int) then (tenancyref14_Decode.j3 k x5 (decide ((bt x8 0) ≥ 2)) x237000 x237001 x237002 x237003 x237004 x237005 x237006 x237007 x237008 x237009 x237010 x237011 x237012 x237013) else (none)) else (tenancyref14_Decode.j3 k x5 false x237000 x237001 x237002 x237003 x237004 x237005 x237006 x237007 x237008 x237009 x237010 x237011 x237012 x237013)
def tenancyref14_Decode.j3 : Nat → List ByteArray → Bool → Int → Int → Int → Int → Int → Int → Int → Int → Int → Int → Int → ByteArray → ByteArray → ByteArray → Option (Int × Int × Int × Int × Int × Int × Int × Int × Int × Int × Int × ByteArray × ByteArray × ByteArray × (List (S47)) × Int)
  | 0, _, _, _, _, _, _, _, _, _, _, _, _, _, _, _, _ => none
  | k + 1, x5, x123, x237000, x237001, x237002, x237003, x237004, x237005, x237006, x237007, x237008, x237009, x237010, x237011, x237012, x237013 => if x123 = true then (if x5.length < 8796093022208 then ((tenancyref14_zeros.f 64).bind fun t258 => (tenancyref14_Decode.j4 k (x5 ++ [x237012]) x237000 x237001 x237002 x237003 x237004 x237005 x237006 x237007 x237008 x237009 x237010 x237011 t258 x237013)) else (none)) else (tenancyref14_Decode.j4 k x5 x237000 x237001 x237002 x237003 x237004 x237005 x237006 x237007 x237008 x237009 x237010 x237011 x237012 x237013)
def tenancyref14_Decode.j4 : Nat → List ByteArray → Int → Int → Int → Int → Int → Int → Int → Int → Int → Int → Int → ByteArray → ByteArray → ByteArray → Option (Int × Int × Int × Int × Int × Int × Int × Int × Int × Int × Int × ByteArray × ByteArray × ByteArray × (List (S47)) × Int)
  | 0, _, _, _, _, _, _, _, _, _, _, _, _, _, _, _ => none
  | k + 1, x5, x237000, x237001, x237002, x237003, x237004, x237005, x237006, x237007, x237008, x237009, x237010, x237011, x237012, x237013 => (tenancyref13_Parse.f k x5).bind fun bt259 => (if bt259.2 = 0 then ((tenancyref13_Without.f k bt259.1 52).bind fun t263 => (some (x237000, x237001, x237002, x237003, x237004, x237005, x237006, x237007, x237008, x237009, x237010, x237011, x237012, x237013, t263, 0))) else (some (0, 0, 0, 0, 0, 0, 0, 0, 0, 0, 0, (⟨#[]⟩ : ByteArray), (⟨#[]⟩ : ByteArray), (⟨#[]⟩ : ByteArray), ([] : List (S47)), bt259.2)))
end
def tenancyref14_Decode.f (k : Nat) (a0 : ByteArray) : Option (Int × Int × Int × Int × Int × Int × Int × Int × Int × Int × Int × ByteArray × ByteArray × ByteArray × (List (S47)) × Int) := if (a0.size : Int) > 65507 then (some (0, 0, 0, 0, 0, 0, 0, 0, 0, 0, 0, (⟨#[]⟩ : ByteArray), (⟨#[]⟩ : ByteArray), (⟨#[]⟩ : ByteArray), ([] : List (S47)), 6)) else (if (a0.size : Int) < 240 then (some (0, 0, 0, 0, 0, 0, 0, 0, 0, 0, 0, (⟨#[]⟩ : ByteArray), (⟨#[]⟩ : ByteArray), (⟨#[]⟩ : ByteArray), ([] : List (S47)), 3)) else (if 236 ≤ 240 then (if 240 ≤ (a0.size : Int) then (if (a0.extract 236 240).toList = ([99, 130, 83, 99] : List UInt8) then (if 0 < (a0.size : Int) then (if 1 < (a0.size : Int) then (if 2 < (a0.size : Int) then (if 3 < (a0.size : Int) then (if 28 ≤ 44 then (if 44 ≤ (a0.size : Int) then (if 44 ≤ 108 then (if 108 ≤ (a0.size : Int) then (if 108 ≤ 236 then (if 236 ≤ (a0.size : Int) then ((tenancyref14_word.f k a0 4).bind fun t237 => (if 8 < (a0.size : Int) then (if 9 < (a0.size : Int) then (if 10 < (a0.size : Int) then (if 11 < (a0.size : Int) then ((tenancyref14_word.f k a0 12).bind fun t238 => ((tenancyref14_word.f k a0 16).bind fun t239 => ((tenancyref14_word.f k a0 20).bind fun t240 => ((tenancyref14_word.f k a0 24).bind fun t241 => ((some (([a0.extract 240 a0.size] : List ByteArray) : List ByteArray)).bind fun y242 => ((tenancyref13_Parse.f k y242).bind fun bt245 => (if bt245.2 = 0 then ((tenancyref13_Find.f k bt245.1 52).bind fun bt249 => (if bt249.2 = true then (if (bt249.1.size : Int) = 1 then (if 0 < (bt249.1.size : Int) then (if (bt bt249.1 0) < 1 then (tenancyref14_Decode.j0 k y242 bt249.1 bt249.2 true (bt a0 0) (bt a0 1) (bt a0 2) (bt a0 3) t237 (IntKind.u16.wrap ((IntKind.u16.wrap ((IntKind.u16.wrap (bt a0 8)) * 256)) + (IntKind.u16.wrap (bt a0 9)))) (IntKind.u16.wrap ((IntKind.u16.wrap ((IntKind.u16.wrap (bt a0 10)) * 256)) + (IntKind.u16.wrap (bt a0 11)))) t238 t239 t240 t241 (a0.extract 28 44) (a0.extract 44 108) (a0.extract 108 236)) else (tenancyref14_Decode.j0 k y242 bt249.1 bt249.2 (decide ((bt bt249.1 0) > 3)) (bt a0 0) (bt a0 1) (bt a0 2) (bt a0 3) t237 (IntKind.u16.wrap ((IntKind.u16.wrap ((IntKind.u16.wrap (bt a0 8)) * 256)) + (IntKind.u16.wrap (bt a0 9)))) (IntKind.u16.wrap ((IntKind.u16.wrap ((IntKind.u16.wrap (bt a0 10)) * 256)) + (IntKind.u16.wrap (bt a0 11)))) t238 t239 t240 t241 (a0.extract 28 44) (a0.extract 44 108) (a0.extract 108 236))) else (none)) else (tenancyref14_Decode.j0 k y242 bt249.1 bt249.2 true (bt a0 0) (bt a0 1) (bt a0 2) (bt a0 3) t237 (IntKind.u16.wrap ((IntKind.u16.wrap ((IntKind.u16.wrap (bt a0 8)) * 256)) + (IntKind.u16.wrap (bt a0 9)))) (IntKind.u16.wrap ((IntKind.u16.wrap ((IntKind.u16.wrap (bt a0 10)) * 256)) + (IntKind.u16.wrap (bt a0 11)))) t238 t239 t240 t241 (a0.extract 28 44) (a0.extract 44 108) (a0.extract 108 236))) else (tenancyref14_Decode.j0 k y242 bt249.1 bt249.2 false (bt a0 0) (bt a0 1) (bt a0 2) (bt a0 3) t237 (IntKind.u16.wrap ((IntKind.u16.wrap ((IntKind.u16.wrap (bt a0 8)) * 256)) + (IntKind.u16.wrap (bt a0 9)))) (IntKind.u16.wrap ((IntKind.u16.wrap ((IntKind.u16.wrap (bt a0 10)) * 256)) + (IntKind.u16.wrap (bt a0 11)))) t238 t239 t240 t241 (a0.extract 28 44) (a0.extract 44 108) (a0.extract 108 236)))) else (some (0, 0, 0, 0, 0, 0, 0, 0, 0, 0, 0, (⟨#[]⟩ : ByteArray), (⟨#[]⟩ : ByteArray), (⟨#[]⟩ : ByteArray), ([] : List (S47)), bt245.2))))))))) else (none)) else (none)) else (none)) else (none))) else (none)) else (none)) else (none)) else (none)) else (none)) else (none)) else (none)) else (none)) else (none)) else (none)) else (some (0, 0, 0, 0, 0, 0, 0, 0, 0, 0, 0, (⟨#[]⟩ : ByteArray), (⟨#[]⟩ : ByteArray), (⟨#[]⟩ : ByteArray), ([] : List (S47)), 140))) else (none)) else (none)))
theorem tenancyref14_Decode.mono_l : ∀ k, (∀ y0 y1 y2 y3 y4 y5 y6 y7 y8 y9 y10 y11 y12 y13 y14 y15 y16 y17, LeO (tenancyref14_Decode.j0 k y0 y1 y2 y3 y4 y5 y6 y7 y8 y9 y10 y11 y12 y13 y14 y15 y16 y17) (tenancyref14_Decode.j0 (k + 1) y0 y1 y2 y3 y4 y5 y6 y7 y8 y9 y10 y11 y12 y13 y14 y15 y16 y17)) ∧ (∀ y0 y1 y2 y3 y4 y5 y6 y7 y8 y9 y10 y11 y12 y13 y14 y15 y16 y17, LeO (tenancyref14_Decode.j1 k y0 y1 y2 y3 y4 y5 y6 y7 y8 y9 y10 y11 y12 y13 y14 y15 y16 y17) (tenancyref14_Decode.j1 (k + 1) y0 y1 y2 y3 y4 y5 y6 y7 y8 y9 y10 y11 y12 y13 y14 y15 y16 y17)) ∧ (∀ y0 y1 y2 y3 y4 y5 y6 y7 y8 y9 y10 y11 y12 y13 y14 y15 y16, LeO (tenancyref14_Decode.j2 k y0 y1 y2 y3 y4 y5 y6 y7 y8 y9 y10 y11 y12 y13 y14 y15 y16) (tenancyref14_Decode.j2 (k + 1) y0 y1 y2 y3 y4 y5 y6 y7 y8 y9 y10 y11 y12 y13 y14 y15 y16)) ∧ (∀ y0 y1 y2 y3 y4 y5 y6 y7 y8 y9 y10 y11 y12 y13 y14 y15, LeO (tenancyref14_Decode.j3 k y0 y1 y2 y3 y4 y5 y6 y7 y8 y9 y10 y11 y12 y13 y14 y15) (tenancyref14_Decode.j3 (k + 1) y0 y1 y2 y3 y4 y5 y6 y7 y8 y9 y10 y11 y12 y13 y14 y15)) ∧ (∀ y0 y1 y2 y3 y4 y5 y6 y7 y8 y9 y10 y11 y12 y13 y14, LeO (tenancyref14_Decode.j4 k y0 y1 y2 y3 y4 y5 y6 y7 y8 y9 y10 y11 y12 y13 y14) (tenancyref14_Decode.j4 (k + 1) y0 y1 y2 y3 y4 y5 y6 y7 y8 y9 y10 y11 y12 y13 y14))
  | 0 => ⟨fun _ _ _ _ _ _ _ _ _ _ _ _ _ _ _ _ _ _ r h => by simp [tenancyref14_Decode.j0] at h, fun _ _ _ _ _ _ _ _ _ _ _ _ _ _ _ _ _ _ r h => by simp [tenancyref14_Decode.j1] at h, fun _ _ _ _ _ _ _ _ _ _ _ _ _ _ _ _ _ r h => by simp [tenancyref14_Decode.j2] at h, fun _ _ _ _ _ _ _ _ _ _ _ _ _ _ _ _ r h => by simp [tenancyref14_Decode.j3] at h, fun _ _ _ _ _ _ _ _ _ _ _ _ _ _ _ r h => by simp [tenancyref14_Decode.j4] at h⟩
  | k + 1 => by
    obtain ⟨ih0, ih1, ih2, ih3, ih4⟩ := tenancyref14_Decode.mono_l k
    refine ⟨?_, ?_, ?_, ?_, ?_⟩
    · intro y0 y1 y2 y3 y4 y5 y6 y7 y8 y9 y10 y11 y12 y13 y14 y15 y16 y17
      unfold tenancyref14_Decode.j0
      repeat' first
      | (with_reducible exact ih0 _ _ _ _ _ _ _ _ _ _ _ _ _ _ _ _ _ _)
      | (with_reducible exact ih1 _ _ _ _ _ _ _ _ _ _ _ _ _ _ _ _ _ _)
      | (with_reducible exact ih2 _ _ _ _ _ _ _ _ _ _ _ _ _ _ _ _ _)
      | (with_reducible exact ih3 _ _ _ _ _ _ _ _ _ _ _ _ _ _ _ _)
      | (with_reducible exact ih4 _ _ _ _ _ _ _ _ _ _ _ _ _ _ _)
      | (with_reducible exact tenancyref13_Find.mono _ _ _)
      | (with_reducible exact tenancyref13_Parse.mono _ _)
      | (with_reducible exact tenancyref13_Without.mono _ _ _)
      | (with_reducible exact tenancyref14_word.mono _ _ _)
      | (with_reducible exact LeO.refl _)
      | (with_reducible exact LeO.none _)
      | (with_reducible refine LeO.ite ?_ ?_)
      | (with_reducible refine LeO.bind ?_ (fun _ => ?_))
      | exact ih0 _ _ _ _ _ _ _ _ _ _ _ _ _ _ _ _ _ _
      | exact ih1 _ _ _ _ _ _ _ _ _ _ _ _ _ _ _ _ _ _
      | exact ih2 _ _ _ _ _ _ _ _ _ _ _ _ _ _ _ _ _
      | exact ih3 _ _ _ _ _ _ _ _ _ _ _ _ _ _ _ _
      | exact ih4 _ _ _ _ _ _ _ _ _ _ _ _ _ _ _
      | exact tenancyref13_Find.mono _ _ _
      | exact tenancyref13_Parse.mono _ _
      | exact tenancyref13_Without.mono _ _ _
      | exact tenancyref14_word.mono _ _ _
      | exact LeO.none _
      | refine LeO.ite ?_ ?_
      | refine LeO.bind ?_ (fun _ => ?_)
    · intro y0 y1 y2 y3 y4 y5 y6 y7 y8 y9 y10 y11 y12 y13 y14 y15 y16 y17
      unfold tenancyref14_Decode.j1
      repeat' first
      | (with_reducible exact ih0 _ _ _ _ _ _ _ _ _ _ _ _ _ _ _ _ _ _)
      | (with_reducible exact ih1 _ _ _ _ _ _ _ _ _ _ _ _ _ _ _ _ _ _)
      | (with_reducible exact ih2 _ _ _ _ _ _ _ _ _ _ _ _ _ _ _ _ _)
      | (with_reducible exact ih3 _ _ _ _ _ _ _ _ _ _ _ _ _ _ _ _)
      | (with_reducible exact ih4 _ _ _ _ _ _ _ _ _ _ _ _ _ _ _)
      | (with_reducible exact tenancyref13_Find.mono _ _ _)
      | (with_reducible exact tenancyref13_Parse.mono _ _)
      | (with_reducible exact tenancyref13_Without.mono _ _ _)
      | (with_reducible exact tenancyref14_word.mono _ _ _)
      | (with_reducible exact LeO.refl _)
      | (with_reducible exact LeO.none _)
      | (with_reducible refine LeO.ite ?_ ?_)
      | (with_reducible refine LeO.bind ?_ (fun _ => ?_))
      | exact ih0 _ _ _ _ _ _ _ _ _ _ _ _ _ _ _ _ _ _
      | exact ih1 _ _ _ _ _ _ _ _ _ _ _ _ _ _ _ _ _ _
      | exact ih2 _ _ _ _ _ _ _ _ _ _ _ _ _ _ _ _ _
      | exact ih3 _ _ _ _ _ _ _ _ _ _ _ _ _ _ _ _
      | exact ih4 _ _ _ _ _ _ _ _ _ _ _ _ _ _ _
      | exact tenancyref13_Find.mono _ _ _
      | exact tenancyref13_Parse.mono _ _
      | exact tenancyref13_Without.mono _ _ _
      | exact tenancyref14_word.mono _ _ _
      | exact LeO.none _
      | refine LeO.ite ?_ ?_
      | refine LeO.bind ?_ (fun _ => ?_)
    · intro y0 y1 y2 y3 y4 y5 y6 y7 y8 y9 y10 y11 y12 y13 y14 y15 y16
      unfold tenancyref14_Decode.j2
      repeat' first
      | (with_reducible exact ih0 _ _ _ _ _ _ _ _ _ _ _ _ _ _ _ _ _ _)
      | (with_reducible exact ih1 _ _ _ _ _ _ _ _ _ _ _ _ _ _ _ _ _ _)
      | (with_reducible exact ih2 _ _ _ _ _ _ _ _ _ _ _ _ _ _ _ _ _)
      | (with_reducible exact ih3 _ _ _ _ _ _ _ _ _ _ _ _ _ _ _ _)
      | (with_reducible exact ih4 _ _ _ _ _ _ _ _ _ _ _ _ _ _ _)
      | (with_reducible exact tenancyref13_Find.mono _ _ _)
      | (with_reducible exact tenancyref13_Parse.mono _ _)
      | (with_reducible exact tenancyref13_Without.mono _ _ _)
      | (with_reducible exact tenancyref14_word.mono _ _ _)
      | (with_reducible exact LeO.refl _)
      | (with_reducible exact LeO.none _)
      | (with_reducible refine LeO.ite ?_ ?_)
      | (with_reducible refine LeO.bind ?_ (fun _ => ?_))
      | exact ih0 _ _ _ _ _ _ _ _ _ _ _ _ _ _ _ _ _ _
      | exact ih1 _ _ _ _ _ _ _ _ _ _ _ _ _ _ _ _ _ _
      | exact ih2 _ _ _ _ _ _ _ _ _ _ _ _ _ _ _ _ _
      | exact ih3 _ _ _ _ _ _ _ _ _ _ _ _ _ _ _ _
      | exact ih4 _ _ _ _ _ _ _ _ _ _ _ _ _ _ _
      | exact tenancyref13_Find.mono _ _ _
      | exact tenancyref13_Parse.mono _ _
      | exact tenancyref13_Without.mono _ _ _
      | exact tenancyref14_word.mono _ _ _
      | exact LeO.none _
      | refine LeO.ite ?_ ?_
      | refine LeO.bind ?_ (fun _ => ?_)
    · intro y0 y1 y2 y3 y4 y5 y6 y7 y8 y9 y10 y11 y12 y13 y14 y15
      unfold tenancyref14_Decode.j3
      repeat' first
      | (with_reducible exact ih0 _ _ _ _ _ _ _ _ _ _ _ _ _ _ _ _ _ _)
      | (with_reducible exact ih1 _ _ _ _ _ _ _ _ _ _ _ _ _ _ _ _ _ _)
      | (with_reducible exact ih2 _ _ _ _ _ _ _ _ _ _ _ _ _ _ _ _ _)
      | (with_reducible exact ih3 _ _ _ _ _ _ _ _ _ _ _ _ _ _ _ _)
      | (with_reducible exact ih4 _ _ _ _ _ _ _ _ _ _ _ _ _ _ _)
      | (with_reducible exact tenancyref13_Find.mono _ _ _)
      | (with_reducible exact tenancyref13_Parse.mono _ _)
      | (with_reducible exact tenancyref13_Without.mono _ _ _)
      | (with_reducible exact tenancyref14_word.mono _ _ _)
      | (with_reducible exact LeO.refl _)
      | (with_reducible exact LeO.none _)
      | (with_reducible refine LeO.ite ?_ ?_)
      | (with_reducible refine LeO.bind ?_ (fun _ => ?_))
      | exact ih0 _ _ _ _ _ _ _ _ _ _ _ _ _ _ _ _ _ _
      | exact ih1 _ _ _ _ _ _ _ _ _ _ _ _ _ _ _ _ _ _
      | exact ih2 _ _ _ _ _ _ _ _ _ _ _ _ _ _ _ _ _
      | exact ih3 _ _ _ _ _ _ _ _ _ _ _ _ _ _ _ _
      | exact ih4 _ _ _ _ _ _ _ _ _ _ _ _ _ _ _
      | exact tenancyref13_Find.mono _ _ _
      | exact tenancyref13_Parse.mono _ _
      | exact tenancyref13_Without.mono _ _ _
      | exact tenancyref14_word.mono _ _ _
      | exact LeO.none _
      | refine LeO.ite ?_ ?_
      | refine LeO.bind ?_ (fun _ => ?_)
    · intro y0 y1 y2 y3 y4 y5 y6 y7 y8 y9 y10 y11 y12 y13 y14
      unfold tenancyref14_Decode.j4
      repeat' first
      | (with_reducible exact ih0 _ _ _ _ _ _ _ _ _ _ _ _ _ _ _ _ _ _)
      | (with_reducible exact ih1 _ _ _ _ _ _ _ _ _ _ _ _ _ _ _ _ _ _)
      | (with_reducible exact ih2 _ _ _ _ _ _ _ _ _ _ _ _ _ _ _ _ _)
      | (with_reducible exact ih3 _ _ _ _ _ _ _ _ _ _ _ _ _ _ _ _)
      | (with_reducible exact ih4 _ _ _ _ _ _ _ _ _ _ _ _ _ _ _)
      | (with_reducible exact tenancyref13_Find.mono _ _ _)
      | (with_reducible exact tenancyref13_Parse.mono _ _)
      | (with_reducible exact tenancyref13_Without.mono _ _ _)
      | (with_reducible exact tenancyref14_word.mono _ _ _)
      | (with_reducible exact LeO.refl _)
      | (with_reducible exact LeO.none _)
      | (with_reducible refine LeO.ite ?_ ?_)
      | (with_reducible refine LeO.bind ?_ (fun _ => ?_))
      | exact ih0 _ _ _ _ _ _ _ _ _ _ _ _ _ _ _ _ _ _
      | exact ih1 _ _ _ _ _ _ _ _ _ _ _ _ _ _ _ _ _ _
      | exact ih2 _ _ _ _ _ _ _ _ _ _ _ _ _ _ _ _ _
      | exact ih3 _ _ _ _ _ _ _ _ _ _ _ _ _ _ _ _
      | exact ih4 _ _ _ _ _ _ _ _ _ _ _ _ _ _ _
      | exact tenancyref13_Find.mono _ _ _
      | exact tenancyref13_Parse.mono _ _
      | exact tenancyref13_Without.mono _ _ _
      | exact tenancyref14_word.mono _ _ _
      | exact LeO.none _
      | refine LeO.ite ?_ ?_
      | refine LeO.bind ?_ (fun _ => ?_)
theorem tenancyref14_Decode.mono : ∀ a0 k, LeO (tenancyref14_Decode.f k a0) (tenancyref14_Decode.f (k + 1) a0) := by
  intro a0 k
  obtain ⟨ih0, ih1, ih2, ih3, ih4⟩ := tenancyref14_Decode.mono_l k
  unfold tenancyref14_Decode.f
  repeat' first
      | (with_reducible exact ih0 _ _ _ _ _ _ _ _ _ _ _ _ _ _ _ _ _ _)
      | (with_reducible exact ih1 _ _ _ _ _ _ _ _ _ _ _ _ _ _ _ _ _ _)
      | (with_reducible exact ih2 _ _ _ _ _ _ _ _ _ _ _ _ _ _ _ _ _)
      | (with_reducible exact ih3 _ _ _ _ _ _ _ _ _ _ _ _ _ _ _ _)
      | (with_reducible exact ih4 _ _ _ _ _ _ _ _ _ _ _ _ _ _ _)
      | (with_reducible exact tenancyref13_Find.mono _ _ _)
      | (with_reducible exact tenancyref13_Parse.mono _ _)
      | (with_reducible exact tenancyref13_Without.mono _ _ _)
      | (with_reducible exact tenancyref14_word.mono _ _ _)
      | (with_reducible exact LeO.refl _)
      | (with_reducible exact LeO.none _)
      | (with_reducible refine LeO.ite ?_ ?_)
      | (with_reducible refine LeO.bind ?_ (fun _ => ?_))
      | exact ih0 _ _ _ _ _ _ _ _ _ _ _ _ _ _ _ _ _ _
      | exact ih1 _ _ _ _ _ _ _ _ _ _ _ _ _ _ _ _ _ _
      | exact ih2 _ _ _ _ _ _ _ _ _ _ _ _ _ _ _ _ _
      | exact ih3 _ _ _ _ _ _ _ _ _ _ _ _ _ _ _ _
      | exact ih4 _ _ _ _ _ _ _ _ _ _ _ _ _ _ _
      | exact tenancyref13_Find.mono _ _ _
      | exact tenancyref13_Parse.mono _ _
      | exact tenancyref13_Without.mono _ _ _
      | exact tenancyref14_word.mono _ _ _
      | exact LeO.none _
      | refine LeO.ite ?_ ?_
      | refine LeO.bind ?_ (fun _ => ?_)
def tenancyref14_Decode.T7 : Bool × List (List Nat × List Nat) := (true, [([], []), ([0], [0]), ([], []), ([2], [2]), ([], []), ([4], [4]), ([], []), ([6], [6]), ([], []), ([8], [8]), ([], []), ([10], [10]), ([], []), ([12], [12]), ([1, 3, 5, 7, 9, 11, 13], [1, 3, 5, 7, 9, 11, 13]), ([], []), ([15, 14, 0, 1, 2, 3, 4, 5, 6, 7, 8, 9, 10, 11, 12, 13, 14, 15], [14, 15])])
def tenancyref14_Decode.B7 : List Nat := [0, 1, 0, 4, 0, 16, 0, 64, 0, 256, 0, 1024, 0, 4096, 16383, 0, 65535]
theorem tenancyref14_Decode.tab7 : rtab .any (opsOf Try.f17 7) = tenancyref14_Decode.T7 := by kernel_rfl
theorem tenancyref14_Decode.bits7 : waitsOk tenancyref14_Decode.T7.2 tenancyref14_Decode.B7 = true := by kernel_rfl
def tenancyref14_Decode.T9 : Bool × List (List Nat × List Nat) := (true, [([], []), ([0], [0]), ([1], [1]), ([2], [2]), ([], []), ([4], [4]), ([5], [5]), ([3, 6], [3, 6]), ([0, 1, 2, 3, 4, 5, 6, 7], []), ([8, 7, 0, 1, 2, 3, 4, 5, 6, 7], [7, 8])])
def tenancyref14_Decode.B9 : List Nat := [0, 1, 3, 7, 0, 16, 48, 127, 255, 511]
theorem tenancyref14_Decode.tab9 : rtab .any (opsOf Try.f17 9) = tenancyref14_Decode.T9 := by kernel_rfl
theorem tenancyref14_Decode.bits9 : waitsOk tenancyref14_Decode.T9.2 tenancyref14_Decode.B9 = true := by kernel_rfl
def tenancyref14_Decode.T10 : Bool × List (List Nat × List Nat) := (true, [([], []), ([0], [0]), ([1], [1]), ([2], [2]), ([], []), ([4], [4]), ([5], [5]), ([3, 6], [3, 6]), ([0, 1, 2, 3, 4, 5, 6, 7], []), ([8, 7, 0, 1, 2, 3, 4, 5, 6, 7], [7, 8])])
def tenancyref14_Decode.B10 : List Nat := [0, 1, 3, 7, 0, 16, 48, 127, 255, 511]
theorem tenancyref14_Decode.tab10 : rtab .any (opsOf Try.f17 10) = tenancyref14_Decode.T10 := by kernel_rfl
theorem tenancyref14_Decode.bits10 : waitsOk tenancyref14_Decode.T10.2 tenancyref14_Decode.B10 = true := by kernel_rfl

set_option maxHeartbeats 8000000 in
set_option maxRecDepth 100000 in
theorem tenancyref14_Decode.calls (k : Nat) (a0 : ByteArray) (r1 : Int) (r2 : Int) (r3 : Int) (r4 : Int) (r5 : Int) (r6 : Int) (r7 : Int) (r8 : Int) (r9 : Int) (r10 : Int) (r11 : Int) (r12 : ByteArray) (r13 : ByteArray) (r14 : ByteArray) (r15 : List (S47)) (r16 : Int) (w : World) (h : tenancyref14_Decode.f k a0 = some (r1, r2, r3, r4, r5, r6, r7, r8, r9, r10, r11, r12, r13, r14, r15, r16)) :
    Calls Try.prog 17 #[.string a0] w fun e w' => ∃ v14_ : Value, e = .returned (.tuple #[.agg #[.int .u8 r1, .int .u8 r2, .int .u8 r3, .int .u8 r4, .int .u32 r5, .int .u16 r6, .int .u16 r7, .int .u32 r8, .int .u32 r9, .int .u32 r10, .int .u32 r11, .string r12, .string r13, .string r14, v14_], .int .i64 r16]) ∧ Kd.R k47 47 w' w.heap.size (fun _ => True) v14_ r15 ∧ Below w.heap.size w w' := by
  have hu26 := Try.underlying26
  have hu47 := Try.underlying47
  have hi26 : (Try.prog.info? 26).map (·.size) = some 15 := by kernel_rfl
  unfold tenancyref14_Decode.f at h
  go_enter Try.func17, Try.ntmps17
  go_upto_region 1 with ((with_reducible refine gate_dst (N := 2) rfl ?_); refine box_event ?hg (N := 2) ?hd (cs := #[.int .u8 0, .int .u8 0, .int .u8 0, .int .u8 0, .int .u32 0, .int .u16 0, .int .u16 0, .int .u32 0, .int .u32 0, .int .u32 0, .int .u32 0, .string (⟨#[]⟩ : ByteArray), .string (⟨#[]⟩ : ByteArray), .string (⟨#[]⟩ : ByteArray), .slice none 0 0]) (t := 26) ?hr ?_; (case hd => rfl); (case hg => rfl); (case hr => first | (go_simp; done) | (go_simp; rfl)); intro gb235 hga w43 hbox hb; have BK235 := Aside0.mk hbox; have HB := Aside0.mk (below_step (Below.refl w.heap.size w) hb); have GE235 := Aside0.mk (by rw [hga]; exact Nat.le_refl _ : w.heap.size ≤ gb235); clear hga hbox hb)
  by_cases c1 : (a0.size : Int) > 65507
  · rw [if_pos c1] at h
    simp only [Option.some.injEq, Prod.mk.injEq] at h
    obtain ⟨rfl, rfl, rfl, rfl, rfl, rfl, rfl, rfl, rfl, rfl, rfl, rfl, rfl, rfl, rfl, rfl⟩ := h
    have hc : decide ((65507 : Int) < (a0.size : Int)) = true := decide_eq_true c1
    go_wp2_with ((with_reducible refine gate_store (p := 2) rfl ?_); refine XBox.storeL_ rfl rfl 26 rfl gb235 rfl #[.int .u8 0, .int .u8 0, .int .u8 0, .int .u8 0, .int .u32 0, .int .u16 0, .int .u16 0, .int .u32 0, .int .u32 0, .int .u32 0, .int .u32 0, .string (⟨#[]⟩ : ByteArray), .string (⟨#[]⟩ : ByteArray), .string (⟨#[]⟩ : ByteArray), .slice none 0 0] #[.int .u8 0, .int .u8 0, .int .u8 0, .int .u8 0, .int .u32 0, .int .u16 0, .int .u16 0, .int .u32 0, .int .u32 0, .int .u32 0, .int .u32 0, .string (⟨#[]⟩ : ByteArray), .string (⟨#[]⟩ : ByteArray), .string (⟨#[]⟩ : ByteArray), .slice none 0 0] rfl BK235.out hi26 (Eq.refl 15) (by simp [Value.oneCell']) ?_; intro wz hw1 hw2 hw3; have BR := Aside0.mk hw1; have HR := Aside0.mk (HB.out.trans (hw2 _ GE235.out)); clear hw1 hw2 hw3)
    refine bodyPost_ret (results_ct rfl _ _ gb235 26 #[.int .u8 0, .int .u8 0, .int .u8 0, .int .u8 0, .int .u32 0, .int .u16 0, .int .u16 0, .int .u32 0, .int .u32 0, .int .u32 0, .int .u32 0, .string (⟨#[]⟩ : ByteArray), .string (⟨#[]⟩ : ByteArray), .string (⟨#[]⟩ : ByteArray), .slice none 0 0] (0, 0) _ rfl BR.out hu26 rfl (by kernel_rfl)) rfl ?_
    exact ⟨_, rfl, Kd.R_nil _ _ _ _ _, HR.out⟩
  rw [if_neg c1] at h
  have hc1 : decide ((65507 : Int) < (a0.size : Int)) = false := decide_eq_false c1
  by_cases c2 : (a0.size : Int) < 240
  · rw [if_pos c2] at h
    simp only [Option.some.injEq, Prod.mk.injEq] at h
    obtain ⟨rfl, rfl, rfl, rfl, rfl, rfl, rfl, rfl, rfl, rfl, rfl, rfl, rfl, rfl, rfl, rfl⟩ := h
    have hc2 : decide ((a0.size : Int) < 240) = true := decide_eq_true c2
    go_wp2_with ((with_reducible refine gate_store (p := 2) rfl ?_); refine XBox.storeL_ rfl rfl 26 rfl gb235 rfl #[.int .u8 0, .int .u8 0, .int .u8 0, .int .u8 0, .int .u32 0, .int .u16 0, .int .u16 0, .int .u32 0, .int .u32 0, .int .u32 0, .int .u32 0, .string (⟨#[]⟩ : ByteArray), .string (⟨#[]⟩ : ByteArray), .string (⟨#[]⟩ : ByteArray), .slice none 0 0] #[.int .u8 0, .int .u8 0, .int .u8 0, .int .u8 0, .int .u32 0, .int .u16 0, .int .u16 0, .int .u32 0, .int .u32 0, .int .u32 0, .int .u32 0, .string (⟨#[]⟩ : ByteArray), .string (⟨#[]⟩ : ByteArray), .string (⟨#[]⟩ : ByteArray), .slice none 0 0] rfl BK235.out hi26 (Eq.refl 15) (by simp [Value.oneCell']) ?_; intro wz hw1 hw2 hw3; have BR := Aside0.mk hw1; have HR := Aside0.mk (HB.out.trans (hw2 _ GE235.out)); clear hw1 hw2 hw3)
    refine bodyPost_ret (results_ct rfl _ _ gb235 26 #[.int .u8 0, .int .u8 0, .int .u8 0, .int .u8 0, .int .u32 0, .int .u16 0, .int .u16 0, .int .u32 0, .int .u32 0, .int .u32 0, .int .u32 0, .string (⟨#[]⟩ : ByteArray), .string (⟨#[]⟩ : ByteArray), .string (⟨#[]⟩ : ByteArray), .slice none 0 0] (0, 0) _ rfl BR.out hu26 rfl (by kernel_rfl)) rfl ?_
    exact ⟨_, rfl, Kd.R_nil _ _ _ _ _, HR.out⟩
  rw [if_neg c2, if_pos (by decide), if_pos (by omega)] at h
  have hc2 : decide ((a0.size : Int) < 240) = false := decide_eq_false c2
  have hs1 : 240 ≤ a0.size := by omega
  have hn0 : decide ((0 : Int) < (a0.size : Int)) = true := decide_eq_true (by omega)
  have hm0 : decide (0 < a0.size) = true := decide_eq_true (by omega)
  have hn1 : decide ((1 : Int) < (a0.size : Int)) = true := decide_eq_true (by omega)
  have hm1 : decide (1 < a0.size) = true := decide_eq_true (by omega)
  have hn2 : decide ((2 : Int) < (a0.size : Int)) = true := decide_eq_true (by omega)
  have hm2 : decide (2 < a0.size) = true := decide_eq_true (by omega)
  have hn3 : decide ((3 : Int) < (a0.size : Int)) = true := decide_eq_true (by omega)
  have hm3 : decide (3 < a0.size) = true := decide_eq_true (by omega)
  have hn8 : decide ((8 : Int) < (a0.size : Int)) = true := decide_eq_true (by omega)
  have hm8 : decide (8 < a0.size) = true := decide_eq_true (by omega)
  have hn9 : decide ((9 : Int) < (a0.size : Int)) = true := decide_eq_true (by omega)
  have hm9 : decide (9 < a0.size) = true := decide_eq_true (by omega)
  have hn10 : decide ((10 : Int) < (a0.size : Int)) = true := decide_eq_true (by omega)
  have hm10 : decide (10 < a0.size) = true := decide_eq_true (by omega)
  have hn11 : decide ((11 : Int) < (a0.size : Int)) = true := decide_eq_true (by omega)
  have hm11 : decide (11 < a0.size) = true := decide_eq_true (by omega)
  have hp44 : ((44 : Int) ≤ (a0.size : Int)) = True := eq_true (by omega)
  have hq44 : (44 ≤ a0.size) = True := eq_true (by omega)
  have hp108 : ((108 : Int) ≤ (a0.size : Int)) = True := eq_true (by omega)
  have hq108 : (108 ≤ a0.size) = True := eq_true (by omega)
  have hp236 : ((236 : Int) ≤ (a0.size : Int)) = True := eq_true (by omega)
  have hq236 : (236 ≤ a0.size) = True := eq_true (by omega)
  have hp240 : ((240 : Int) ≤ (a0.size : Int)) = True := eq_true (by omega)
  have hq240 : (240 ≤ a0.size) = True := eq_true (by omega)
  by_cases c3 : (a0.extract 236 240).toList = [99, 130, 83, 99]
  case neg =>
    rw [if_neg c3] at h
    simp only [Option.some.injEq, Prod.mk.injEq] at h
    obtain ⟨rfl, rfl, rfl, rfl, rfl, rfl, rfl, rfl, rfl, rfl, rfl, rfl, rfl, rfl, rfl, rfl⟩ := h
    have hc3 : ((a0.extract 236 240).toList == [99, 130, 83, 99]) = false := beq_eq_false_iff_ne.mpr c3
    go_wp2_with ((with_reducible refine gate_store (p := 2) rfl ?_); refine XBox.storeL_ rfl rfl 26 rfl gb235 rfl #[.int .u8 0, .int .u8 0, .int .u8 0, .int .u8 0, .int .u32 0, .int .u16 0, .int .u16 0, .int .u32 0, .int .u32 0, .int .u32 0, .int .u32 0, .string (⟨#[]⟩ : ByteArray), .string (⟨#[]⟩ : ByteArray), .string (⟨#[]⟩ : ByteArray), .slice none 0 0] #[.int .u8 0, .int .u8 0, .int .u8 0, .int .u8 0, .int .u32 0, .int .u16 0, .int .u16 0, .int .u32 0, .int .u32 0, .int .u32 0, .int .u32 0, .string (⟨#[]⟩ : ByteArray), .string (⟨#[]⟩ : ByteArray), .string (⟨#[]⟩ : ByteArray), .slice none 0 0] rfl BK235.out hi26 (Eq.refl 15) (by simp [Value.oneCell']) ?_; intro wz hw1 hw2 hw3; have BR := Aside0.mk hw1; have HR := Aside0.mk (HB.out.trans (hw2 _ GE235.out)); clear hw1 hw2 hw3)
    refine bodyPost_ret (results_ct rfl _ _ gb235 26 #[.int .u8 0, .int .u8 0, .int .u8 0, .int .u8 0, .int .u32 0, .int .u16 0, .int .u16 0, .int .u32 0, .int .u32 0, .int .u32 0, .int .u32 0, .string (⟨#[]⟩ : ByteArray), .string (⟨#[]⟩ : ByteArray), .string (⟨#[]⟩ : ByteArray), .slice none 0 0] (0, 0) _ rfl BR.out hu26 rfl (by kernel_rfl)) rfl ?_
    exact ⟨_, rfl, Kd.R_nil _ _ _ _ _, HR.out⟩
  rw [if_pos c3, if_pos (by omega), if_pos (by omega), if_pos (by omega), if_pos (by omega), if_pos (by decide), if_pos (by omega), if_pos (by decide), if_pos (by omega), if_pos (by decide), if_pos (by omega)] at h
  have hc3 : ((a0.extract 236 240).toList == [99, 130, 83, 99]) = true := beq_iff_eq.mpr c3
  clear c1 c2 c3
  obtain ⟨t4, ht4, h1⟩ := Option.bind_eq_some_iff.1 h
  clear h
  rw [if_pos (by omega), if_pos (by omega), if_pos (by omega), if_pos (by omega)] at h1
  obtain ⟨t12, ht12, h2⟩ := Option.bind_eq_some_iff.1 h1
  clear h1
  obtain ⟨t16, ht16, h3⟩ := Option.bind_eq_some_iff.1 h2
  clear h2
  obtain ⟨t20, ht20, h4⟩ := Option.bind_eq_some_iff.1 h3
  clear h3
  obtain ⟨t24, ht24, h5⟩ := Option.bind_eq_some_iff.1 h4
  clear h4
  rw [Option.bind_some] at h5
  have T4 := Aside0.mk ht4
  have T12 := Aside0.mk ht12
  have T16 := Aside0.mk ht16
  have T20 := Aside0.mk ht20
  have T24 := Aside0.mk ht24
  have H5 := Aside0.mk h5
  clear ht4 ht12 ht16 ht20 ht24 h5
  go_upto_region 7 with fail
  have n0_ := Aside0.mk (blk_drew BK235.out)
  have n1_ := Aside0.mk (below_drew1 HB.out)
  clear BK235
  clear HB
  have BK235 := n0_
  have HB := n1_
  clear n0_ n1_
  have p12 : 0 ≤ (0 : Int) := (by omega)
  have q12 : 0 < a0.size := (by have : (0 : Int) < (a0.size : Int) := of_decide_eq_true (by first | (with_reducible assumption) | assumption); omega)
  have hx12 : ∀ h : 0 < a0.size, ((a0[0]'h).toNat : Int) = bt a0 0 := bt_at a0 0
  clear p12
  have qi12 : (0 < (a0.size : Int)) = True := eq_true (of_decide_eq_true (by first | (with_reducible assumption) | assumption))
  replace q12 := eq_true q12
  have p14 : 0 ≤ (1 : Int) := (by omega)
  have q14 : 1 < a0.size := (by have : (1 : Int) < (a0.size : Int) := of_decide_eq_true (by first | (with_reducible assumption) | assumption); omega)
  have hx14 : ∀ h : 1 < a0.size, ((a0[1]'h).toNat : Int) = bt a0 1 := bt_at a0 1
  clear p14
  have qi14 : (1 < (a0.size : Int)) = True := eq_true (of_decide_eq_true (by first | (with_reducible assumption) | assumption))
  replace q14 := eq_true q14
  have p16 : 0 ≤ (2 : Int) := (by omega)
  have q16 : 2 < a0.size := (by have : (2 : Int) < (a0.size : Int) := of_decide_eq_true (by first | (with_reducible assumption) | assumption); omega)
  have hx16 : ∀ h : 2 < a0.size, ((a0[2]'h).toNat : Int) = bt a0 2 := bt_at a0 2
  clear p16
  have qi16 : (2 < (a0.size : Int)) = True := eq_true (of_decide_eq_true (by first | (with_reducible assumption) | assumption))
  replace q16 := eq_true q16
  have p18 : 0 ≤ (3 : Int) := (by omega)
  have q18 : 3 < a0.size := (by have : (3 : Int) < (a0.size : Int) := of_decide_eq_true (by first | (with_reducible assumption) | assumption); omega)
  have hx18 : ∀ h : 3 < a0.size, ((a0[3]'h).toNat : Int) = bt a0 3 := bt_at a0 3
  clear p18
  have qi18 : (3 < (a0.size : Int)) = True := eq_true (of_decide_eq_true (by first | (with_reducible assumption) | assumption))
  replace q18 := eq_true q18
  refine start_ (n := 17) (S := fun w' => True) (ds := []) #[false, false, false, false, false, false, false, false, false, false, false, false, false, false, false, false, false] (by kernel_rfl) rfl rfl trivial (fun hHeld => ?_); refine with_tabW tenancyref14_Decode.tab7 tenancyref14_Decode.bits7 (fun HT_ HW_ => ?_)
  generalize w43.drew = w44 at BK235 HB hHeld ⊢
  refine pure_ (i := 0) (N := some 22) (v := ?_) (a' := ?_) #[true, false, false, false, false, false, false, false, false, false, false, false, false, false, false, false, false] rfl rfl (any_of HT_.out (by kernel_rfl)) (fun _ _ _ h => h) (Or.inl ⟨by rfl, ?_⟩) ?_ ?_
  rotate_left
  · intro w'
    go_simp
    with_reducible rfl
  rotate_left
  · simp only [Act.put, List.setIfInBounds_toArray, List.set_cons_zero, List.set_cons_succ, i64_w, i32_w]
    rfl
  refine pure_ (i := 2) (N := some 24) (v := ?_) (a' := ?_) #[true, false, true, false, false, false, false, false, false, false, false, false, false, false, false, false, false] rfl rfl (any_of HT_.out (by kernel_rfl)) (fun _ _ _ h => h) (Or.inl ⟨by rfl, ?_⟩) ?_ ?_
  rotate_left
  · intro w'
    go_simp
    with_reducible rfl
  rotate_left
  · simp only [Act.put, List.setIfInBounds_toArray, List.set_cons_zero, List.set_cons_succ, i64_w, i32_w]
    rfl
  refine pure_ (i := 4) (N := some 26) (v := ?_) (a' := ?_) #[true, false, true, false, true, false, false, false, false, false, false, false, false, false, false, false, false] rfl rfl (any_of HT_.out (by kernel_rfl)) (fun _ _ _ h => h) (Or.inl ⟨by rfl, ?_⟩) ?_ ?_
  rotate_left
  · intro w'
    go_simp
    with_reducible rfl
  rotate_left
  · simp only [Act.put, List.setIfInBounds_toArray, List.set_cons_zero, List.set_cons_succ, i64_w, i32_w]
    rfl
  refine pure_ (i := 6) (N := some 28) (v := ?_) (a' := ?_) #[true, false, true, false, true, false, true, false, false, false, false, false, false, false, false, false, false] rfl rfl (any_of HT_.out (by kernel_rfl)) (fun _ _ _ h => h) (Or.inl ⟨by rfl, ?_⟩) ?_ ?_
  rotate_left
  · intro w'
    go_simp
    with_reducible rfl
  rotate_left
  · simp only [Act.put, List.setIfInBounds_toArray, List.set_cons_zero, List.set_cons_succ, i64_w, i32_w]
    rfl
  refine pure_ (i := 8) (N := some 30) (v := ?_) (a' := ?_) #[true, false, true, false, true, false, true, false, true, false, false, false, false, false, false, false, false] rfl rfl (any_of HT_.out (by kernel_rfl)) (fun _ _ _ h => h) (Or.inl ⟨by rfl, ?_⟩) ?_ ?_
  rotate_left
  · intro w'
    go_simp
    with_reducible rfl
  rotate_left
  · simp only [Act.put, List.setIfInBounds_toArray, List.set_cons_zero, List.set_cons_succ, i64_w, i32_w]
    rfl
  refine pure_ (i := 9) (N := some 31) (v := ?_) (a' := ?_) #[true, false, true, false, true, false, true, false, true, true, false, false, false, false, false, false, false] rfl rfl (any_of HT_.out (by kernel_rfl)) (fun _ _ _ h => h) (Or.inl ⟨by rfl, ?_⟩) ?_ ?_
  rotate_left
  · intro w'
    go_simp
    with_reducible rfl
  rotate_left
  · simp only [Act.put, List.setIfInBounds_toArray, List.set_cons_zero, List.set_cons_succ, i64_w, i32_w]
    rfl
  refine pure_ (i := 10) (N := some 32) (v := ?_) (a' := ?_) #[true, false, true, false, true, false, true, false, true, true, true, false, false, false, false, false, false] rfl rfl (any_of HT_.out (by kernel_rfl)) (fun _ _ _ h => h) (Or.inl ⟨by rfl, ?_⟩) ?_ ?_
  rotate_left
  · intro w'
    go_simp
    with_reducible rfl
  rotate_left
  · simp only [Act.put, List.setIfInBounds_toArray, List.set_cons_zero, List.set_cons_succ, i64_w, i32_w]
    rfl
  refine pure_ (i := 11) (N := some 33) (v := ?_) (a' := ?_) #[true, false, true, false, true, false, true, false, true, true, true, true, false, false, false, false, false] rfl rfl (any_of HT_.out (by kernel_rfl)) (fun _ _ _ h => h) (Or.inl ⟨by rfl, ?_⟩) ?_ ?_
  rotate_left
  · intro w'
    go_simp
    with_reducible rfl
  rotate_left
  · simp only [Act.put, List.setIfInBounds_toArray, List.set_cons_zero, List.set_cons_succ, i64_w, i32_w]
    rfl
  refine pure_ (i := 12) (N := some 34) (v := ?_) (a' := ?_) #[true, false, true, false, true, false, true, false, true, true, true, true, true, false, false, false, false] rfl rfl (any_of HT_.out (by kernel_rfl)) (fun _ _ _ h => h) (Or.inl ⟨by rfl, ?_⟩) ?_ ?_
  rotate_left
  · intro w'
    go_simp
    with_reducible rfl
  rotate_left
  · simp only [Act.put, List.setIfInBounds_toArray, List.set_cons_zero, List.set_cons_succ, i64_w, i32_w]
    rfl
  refine pure_ (i := 13) (N := some 35) (v := ?_) (a' := ?_) #[true, false, true, false, true, false, true, false, true, true, true, true, true, true, false, false, false] rfl rfl (any_of HT_.out (by kernel_rfl)) (fun _ _ _ h => h) (Or.inl ⟨by rfl, ?_⟩) ?_ ?_
  rotate_left
  · intro w'
    go_simp
    with_reducible rfl
  rotate_left
  · simp only [Act.put, List.setIfInBounds_toArray, List.set_cons_zero, List.set_cons_succ, i64_w, i32_w]
    rfl
  refine take_ (i := 1) (N := some 23) (v := ?_) (a' := ?_) #[true, true, true, false, true, false, true, false, true, true, true, true, true, true, false, false, false] rfl rfl (take_ofW HT_.out HW_.out (by kernel_rfl)) (fun _ _ _ h => h) (Or.inl ⟨by rfl, ?_⟩) hHeld ?_ ?_
  rotate_left
  · intro w' _
    go_simp
    with_reducible rfl
  rotate_left
  · simp only [Act.put, List.setIfInBounds_toArray, List.set_cons_zero, List.set_cons_succ, i64_w, i32_w]
    rfl
  refine take_ (i := 3) (N := some 25) (v := ?_) (a' := ?_) #[true, true, true, true, true, false, true, false, true, true, true, true, true, true, false, false, false] rfl rfl (take_ofW HT_.out HW_.out (by kernel_rfl)) (fun _ _ _ h => h) (Or.inl ⟨by rfl, ?_⟩) hHeld ?_ ?_
  rotate_left
  · intro w' _
    go_simp
    with_reducible rfl
  rotate_left
  · simp only [Act.put, List.setIfInBounds_toArray, List.set_cons_zero, List.set_cons_succ, i64_w, i32_w]
    rfl
  refine take_ (i := 5) (N := some 27) (v := ?_) (a' := ?_) #[true, true, true, true, true, true, true, false, true, true, true, true, true, true, false, false, false] rfl rfl (take_ofW HT_.out HW_.out (by kernel_rfl)) (fun _ _ _ h => h) (Or.inl ⟨by rfl, ?_⟩) hHeld ?_ ?_
  rotate_left
  · intro w' _
    go_simp
    with_reducible rfl
  rotate_left
  · simp only [Act.put, List.setIfInBounds_toArray, List.set_cons_zero, List.set_cons_succ, i64_w, i32_w]
    rfl
  refine take_ (i := 7) (N := some 29) (v := ?_) (a' := ?_) #[true, true, true, true, true, true, true, true, true, true, true, true, true, true, false, false, false] rfl rfl (take_ofW HT_.out HW_.out (by kernel_rfl)) (fun _ _ _ h => h) (Or.inl ⟨by rfl, ?_⟩) hHeld ?_ ?_
  rotate_left
  · intro w' _
    go_simp
    with_reducible rfl
  rotate_left
  · simp only [Act.put, List.setIfInBounds_toArray, List.set_cons_zero, List.set_cons_succ, i64_w, i32_w]
    rfl
  refine pure_ (i := 14) (N := some 36) (v := ?_) (a' := ?_) #[true, true, true, true, true, true, true, true, true, true, true, true, true, true, true, false, false] rfl rfl (any_of HT_.out (by kernel_rfl)) (fun _ _ _ h => h) (Or.inl ⟨by rfl, ?_⟩) ?_ ?_
  rotate_left
  · intro w'
    go_simp
    with_reducible rfl
  rotate_left
  · simp only [Act.put, List.setIfInBounds_toArray, List.set_cons_zero, List.set_cons_succ, i64_w, i32_w]
    rfl
  refine one_ (i := 15) (N := some 4) #[true, true, true, true, true, true, true, true, true, true, true, true, true, true, true, true, false] rfl rfl (one_of HT_.out (by kernel_rfl)) (by decide) (fun K hK => ?_)
  refine box_step ?hg (N := 4) ?hd (cs := #[.int .u8 0, .int .u8 0, .int .u8 0, .int .u8 0, .int .u32 0, .int .u16 0, .int .u16 0, .int .u32 0, .int .u32 0, .int .u32 0, .int .u32 0, .string (⟨#[]⟩ : ByteArray), .string (⟨#[]⟩ : ByteArray), .string (⟨#[]⟩ : ByteArray), .slice none 0 0]) (t := 26) ?hr ?_; (case hd => rfl); (case hg => rfl); (case hr => first | (go_simp; done) | (go_simp; rfl))
  intro gb236 hg w45 hbox hb
  have n0_ := Aside0.mk (blk_below (g := gb235) (o := .cells #[.int .u8 0, .int .u8 0, .int .u8 0, .int .u8 0, .int .u32 0, .int .u16 0, .int .u16 0, .int .u32 0, .int .u32 0, .int .u32 0, .int .u32 0, .string (⟨#[]⟩ : ByteArray), .string (⟨#[]⟩ : ByteArray), .string (⟨#[]⟩ : ByteArray), .slice none 0 0] 26 (0, 0)) (by (with_reducible repeat (first | refine blk_drewN ?_ _ | refine blk_drew ?_ | refine blk_alloc ?_ _)); exact BK235.out) hb)
  have n1_ := Aside0.mk (below_step (by repeat (first | (with_reducible first | exact HB.out | apply below_alloc | apply pw_below_drewN | apply below_drew1 | refine below_set ?_ GE235.out) | exact HB.out)) hb)
  have n2_ := Aside0.mk (hbox)
  have n3_ := Aside0.mk ((by rw [hg]; exact (below_size (by repeat (first | (with_reducible first | exact HB.out | apply below_alloc | apply pw_below_drewN | apply below_drew1 | refine below_set ?_ GE235.out) | exact HB.out))) : w.heap.size ≤ gb236))
  have n4_ := Aside0.mk ((by rw [hg]; exact (below_size (by repeat (first | (with_reducible first | exact HB.out | apply below_alloc | apply pw_below_drewN | apply below_drew1 | refine below_set ?_ GE235.out) | exact HB.out))) : w.heap.size ≤ gb236))
  have n5_ := Aside0.mk ((by rw [hg]; exact Nat.ne_of_lt (blk_lt (g := gb235) (o := .cells #[.int .u8 0, .int .u8 0, .int .u8 0, .int .u8 0, .int .u32 0, .int .u16 0, .int .u16 0, .int .u32 0, .int .u32 0, .int .u32 0, .int .u32 0, .string (⟨#[]⟩ : ByteArray), .string (⟨#[]⟩ : ByteArray), .string (⟨#[]⟩ : ByteArray), .slice none 0 0] 26 (0, 0)) (by (with_reducible repeat (first | refine blk_drewN ?_ _ | refine blk_drew ?_ | refine blk_alloc ?_ _)); exact BK235.out)) : gb235 ≠ gb236))
  have n6_ := Aside0.mk ((by rw [hg]; exact Nat.ne_of_gt (blk_lt (g := gb235) (o := .cells #[.int .u8 0, .int .u8 0, .int .u8 0, .int .u8 0, .int .u32 0, .int .u16 0, .int .u16 0, .int .u32 0, .int .u32 0, .int .u32 0, .int .u32 0, .string (⟨#[]⟩ : ByteArray), .string (⟨#[]⟩ : ByteArray), .string (⟨#[]⟩ : ByteArray), .slice none 0 0] 26 (0, 0)) (by (with_reducible repeat (first | refine blk_drewN ?_ _ | refine blk_drew ?_ | refine blk_alloc ?_ _)); exact BK235.out)) : gb236 ≠ gb235))
  clear BK235
  clear HB
  have BK235 := n0_
  have HB := n1_
  have BK236 := n2_
  have GW236 := n3_
  have GE236 := n4_
  have NB235_236 := n5_
  have NB236_235 := n6_
  clear n0_ n1_ n2_ n3_ n4_ n5_ n6_
  clear hb hbox hg
  refine hK.out _ _ trivial (fun hHeld => ?_)
  clear hK K
  refine norm_ (a' := ?_) ?_ ?_
  rotate_left
  · show Act.put _ (some 4) _ = _
    simp only [Act.put, List.setIfInBounds_toArray, List.set_cons_zero, List.set_cons_succ, i64_w, i32_w]
    rfl
  refine one_ (i := 16) (N := none) #[true, true, true, true, true, true, true, true, true, true, true, true, true, true, true, true, true] rfl rfl (one_of HT_.out (by kernel_rfl)) (by decide) (fun K hK => ?_)
  have hs46 : w45.cell? ⟨gb236, 0, none⟩ = some (.int .u8 0) := (blk_cell BK236.out 0).trans rfl
  have hfs46 := blk_frozen BK236.out 0
  have hns46_0 := NB235_236.out
  have hms46_0 := NB236_235.out
  have hs47 : w45.cell? ⟨gb236, 1, none⟩ = some (.int .u8 0) := (blk_cell BK236.out 1).trans rfl
  have hfs47 := blk_frozen BK236.out 1
  have hns47_0 := NB235_236.out
  have hms47_0 := NB236_235.out
  have hs48 : w45.cell? ⟨gb236, 2, none⟩ = some (.int .u8 0) := (blk_cell BK236.out 2).trans rfl
  have hfs48 := blk_frozen BK236.out 2
  have hns48_0 := NB235_236.out
  have hms48_0 := NB236_235.out
  have hs49 : w45.cell? ⟨gb236, 3, none⟩ = some (.int .u8 0) := (blk_cell BK236.out 3).trans rfl
  have hfs49 := blk_frozen BK236.out 3
  have hns49_0 := NB235_236.out
  have hms49_0 := NB236_235.out
  have hs50 : w45.cell? ⟨gb236, 4, none⟩ = some (.int .u32 0) := (blk_cell BK236.out 4).trans rfl
  have hfs50 := blk_frozen BK236.out 4
  have hns50_0 := NB235_236.out
  have hms50_0 := NB236_235.out
  have hs51 : w45.cell? ⟨gb236, 5, none⟩ = some (.int .u16 0) := (blk_cell BK236.out 5).trans rfl
  have hfs51 := blk_frozen BK236.out 5
  have hns51_0 := NB235_236.out
  have hms51_0 := NB236_235.out
  have hs52 : w45.cell? ⟨gb236, 6, none⟩ = some (.int .u16 0) := (blk_cell BK236.out 6).trans rfl
  have hfs52 := blk_frozen BK236.out 6
  have hns52_0 := NB235_236.out
  have hms52_0 := NB236_235.out
  have hs53 : w45.cell? ⟨gb236, 7, none⟩ = some (.int .u32 0) := (blk_cell BK236.out 7).trans rfl
  have hfs53 := blk_frozen BK236.out 7
  have hns53_0 := NB235_236.out
  have hms53_0 := NB236_235.out
  have hs54 : w45.cell? ⟨gb236, 8, none⟩ = some (.int .u32 0) := (blk_cell BK236.out 8).trans rfl
  have hfs54 := blk_frozen BK236.out 8
  have hns54_0 := NB235_236.out
  have hms54_0 := NB236_235.out
  have hs55 : w45.cell? ⟨gb236, 9, none⟩ = some (.int .u32 0) := (blk_cell BK236.out 9).trans rfl
  have hfs55 := blk_frozen BK236.out 9
  have hns55_0 := NB235_236.out
  have hms55_0 := NB236_235.out
  have hs56 : w45.cell? ⟨gb236, 10, none⟩ = some (.int .u32 0) := (blk_cell BK236.out 10).trans rfl
  have hfs56 := blk_frozen BK236.out 10
  have hns56_0 := NB235_236.out
  have hms56_0 := NB236_235.out
  have hs57 : w45.cell? ⟨gb236, 11, none⟩ = some (.string (⟨#[]⟩ : ByteArray)) := (blk_cell BK236.out 11).trans rfl
  have hfs57 := blk_frozen BK236.out 11
  have hns57_0 := NB235_236.out
  have hms57_0 := NB236_235.out
  have hs58 : w45.cell? ⟨gb236, 12, none⟩ = some (.string (⟨#[]⟩ : ByteArray)) := (blk_cell BK236.out 12).trans rfl
  have hfs58 := blk_frozen BK236.out 12
  have hns58_0 := NB235_236.out
  have hms58_0 := NB236_235.out
  have hs59 : w45.cell? ⟨gb236, 13, none⟩ = some (.string (⟨#[]⟩ : ByteArray)) := (blk_cell BK236.out 13).trans rfl
  have hfs59 := blk_frozen BK236.out 13
  have hns59_0 := NB235_236.out
  have hms59_0 := NB236_235.out
  have hs60 : w45.cell? ⟨gb236, 14, none⟩ = some (.slice none 0 0) := (blk_cell BK236.out 14).trans rfl
  have hfs60 := blk_frozen BK236.out 14
  have hns60_0 := NB235_236.out
  have hms60_0 := NB236_235.out
  refine skip_ (w1 := ?_) (by rfl) rfl ?_ ?_
  rotate_left
  · go_simp
    rfl
  refine hK.out _ _ trivial (fun hHeld => ?_)
  clear hK K
  refine done_ (done_of HT_.out (by kernel_rfl)) ?_
  have HD0 := Aside0.mk (show wire4_head.Hd w (((((((((((((((w45.setCell ⟨gb236, 0, none⟩ (.int .u8 (bt a0 0))).setCell ⟨gb236, 1, none⟩ (.int .u8 (bt a0 1))).setCell ⟨gb236, 2, none⟩ (.int .u8 (bt a0 2))).setCell ⟨gb236, 3, none⟩ (.int .u8 (bt a0 3))).setCell ⟨gb236, 4, none⟩ (.int .u32 0)).setCell ⟨gb236, 5, none⟩ (.int .u16 0)).setCell ⟨gb236, 6, none⟩ (.int .u16 0)).setCell ⟨gb236, 7, none⟩ (.int .u32 0)).setCell ⟨gb236, 8, none⟩ (.int .u32 0)).setCell ⟨gb236, 9, none⟩ (.int .u32 0)).setCell ⟨gb236, 10, none⟩ (.int .u32 0)).setCell ⟨gb236, 11, none⟩ (.string (a0.extract 28 44))).setCell ⟨gb236, 12, none⟩ (.string (a0.extract 44 108))).setCell ⟨gb236, 13, none⟩ (.string (a0.extract 108 236))).setCell ⟨gb236, 14, none⟩ (.slice none 0 0)) gb235 gb236 #[.int .u8 (bt a0 0), .int .u8 (bt a0 1), .int .u8 (bt a0 2), .int .u8 (bt a0 3), .int .u32 0, .int .u16 0, .int .u16 0, .int .u32 0, .int .u32 0, .int .u32 0, .int .u32 0, .string (a0.extract 28 44), .string (a0.extract 44 108), .string (a0.extract 108 236), .slice none 0 0] from ⟨(blk_far (blk_far (blk_far (blk_far (blk_far (blk_far (blk_far (blk_far (blk_far (blk_far (blk_far (blk_far (blk_far (blk_far (blk_far BK235.out NB235_236.out _) NB235_236.out _) NB235_236.out _) NB235_236.out _) NB235_236.out _) NB235_236.out _) NB235_236.out _) NB235_236.out _) NB235_236.out _) NB235_236.out _) NB235_236.out _) NB235_236.out _) NB235_236.out _) NB235_236.out _) NB235_236.out _), (blk_put (cs := #[.int .u8 (bt a0 0), .int .u8 (bt a0 1), .int .u8 (bt a0 2), .int .u8 (bt a0 3), .int .u32 0, .int .u16 0, .int .u16 0, .int .u32 0, .int .u32 0, .int .u32 0, .int .u32 0, .string (a0.extract 28 44), .string (a0.extract 44 108), .string (a0.extract 108 236), .slice none 0 0]) (blk_put (cs := #[.int .u8 (bt a0 0), .int .u8 (bt a0 1), .int .u8 (bt a0 2), .int .u8 (bt a0 3), .int .u32 0, .int .u16 0, .int .u16 0, .int .u32 0, .int .u32 0, .int .u32 0, .int .u32 0, .string (a0.extract 28 44), .string (a0.extract 44 108), .string (⟨#[]⟩ : ByteArray), .slice none 0 0]) (blk_put (cs := #[.int .u8 (bt a0 0), .int .u8 (bt a0 1), .int .u8 (bt a0 2), .int .u8 (bt a0 3), .int .u32 0, .int .u16 0, .int .u16 0, .int .u32 0, .int .u32 0, .int .u32 0, .int .u32 0, .string (a0.extract 28 44), .string (⟨#[]⟩ : ByteArray), .string (⟨#[]⟩ : ByteArray), .slice none 0 0]) (blk_put (cs := #[.int .u8 (bt a0 0), .int .u8 (bt a0 1), .int .u8 (bt a0 2), .int .u8 (bt a0 3), .int .u32 0, .int .u16 0, .int .u16 0, .int .u32 0, .int .u32 0, .int .u32 0, .int .u32 0, .string (⟨#[]⟩ : ByteArray), .string (⟨#[]⟩ : ByteArray), .string (⟨#[]⟩ : ByteArray), .slice none 0 0]) (blk_put (cs := #[.int .u8 (bt a0 0), .int .u8 (bt a0 1), .int .u8 (bt a0 2), .int .u8 (bt a0 3), .int .u32 0, .int .u16 0, .int .u16 0, .int .u32 0, .int .u32 0, .int .u32 0, .int .u32 0, .string (⟨#[]⟩ : ByteArray), .string (⟨#[]⟩ : ByteArray), .string (⟨#[]⟩ : ByteArray), .slice none 0 0]) (blk_put (cs := #[.int .u8 (bt a0 0), .int .u8 (bt a0 1), .int .u8 (bt a0 2), .int .u8 (bt a0 3), .int .u32 0, .int .u16 0, .int .u16 0, .int .u32 0, .int .u32 0, .int .u32 0, .int .u32 0, .string (⟨#[]⟩ : ByteArray), .string (⟨#[]⟩ : ByteArray), .string (⟨#[]⟩ : ByteArray), .slice none 0 0]) (blk_put (cs := #[.int .u8 (bt a0 0), .int .u8 (bt a0 1), .int .u8 (bt a0 2), .int .u8 (bt a0 3), .int .u32 0, .int .u16 0, .int .u16 0, .int .u32 0, .int .u32 0, .int .u32 0, .int .u32 0, .string (⟨#[]⟩ : ByteArray), .string (⟨#[]⟩ : ByteArray), .string (⟨#[]⟩ : ByteArray), .slice none 0 0]) (blk_put (cs := #[.int .u8 (bt a0 0), .int .u8 (bt a0 1), .int .u8 (bt a0 2), .int .u8 (bt a0 3), .int .u32 0, .int .u16 0, .int .u16 0, .int .u32 0, .int .u32 0, .int .u32 0, .int .u32 0, .string (⟨#[]⟩ : ByteArray), .string (⟨#[]⟩ : ByteArray), .string (⟨#[]⟩ : ByteArray), .slice none 0 0]) (blk_put (cs := #[.int .u8 (bt a0 0), .int .u8 (bt a0 1), .int .u8 (bt a0 2), .int .u8 (bt a0 3), .int .u32 0, .int .u16 0, .int .u16 0, .int .u32 0, .int .u32 0, .int .u32 0, .int .u32 0, .string (⟨#[]⟩ : ByteArray), .string (⟨#[]⟩ : ByteArray), .string (⟨#[]⟩ : ByteArray), .slice none 0 0]) (blk_put (cs := #[.int .u8 (bt a0 0), .int .u8 (bt a0 1), .int .u8 (bt a0 2), .int .u8 (bt a0 3), .int .u32 0, .int .u16 0, .int .u16 0, .int .u32 0, .int .u32 0, .int .u32 0, .int .u32 0, .string (⟨#[]⟩ : ByteArray), .string (⟨#[]⟩ : ByteArray), .string (⟨#[]⟩ : ByteArray), .slice none 0 0]) (blk_put (cs := #[.int .u8 (bt a0 0), .int .u8 (bt a0 1), .int .u8 (bt a0 2), .int .u8 (bt a0 3), .int .u32 0, .int .u16 0, .int .u16 0, .int .u32 0, .int .u32 0, .int .u32 0, .int .u32 0, .string (⟨#[]⟩ : ByteArray), .string (⟨#[]⟩ : ByteArray), .string (⟨#[]⟩ : ByteArray), .slice none 0 0]) (blk_put (cs := #[.int .u8 (bt a0 0), .int .u8 (bt a0 1), .int .u8 (bt a0 2), .int .u8 0, .int .u32 0, .int .u16 0, .int .u16 0, .int .u32 0, .int .u32 0, .int .u32 0, .int .u32 0, .string (⟨#[]⟩ : ByteArray), .string (⟨#[]⟩ : ByteArray), .string (⟨#[]⟩ : ByteArray), .slice none 0 0]) (blk_put (cs := #[.int .u8 (bt a0 0), .int .u8 (bt a0 1), .int .u8 0, .int .u8 0, .int .u32 0, .int .u16 0, .int .u16 0, .int .u32 0, .int .u32 0, .int .u32 0, .int .u32 0, .string (⟨#[]⟩ : ByteArray), .string (⟨#[]⟩ : ByteArray), .string (⟨#[]⟩ : ByteArray), .slice none 0 0]) (blk_put (cs := #[.int .u8 (bt a0 0), .int .u8 0, .int .u8 0, .int .u8 0, .int .u32 0, .int .u16 0, .int .u16 0, .int .u32 0, .int .u32 0, .int .u32 0, .int .u32 0, .string (⟨#[]⟩ : ByteArray), .string (⟨#[]⟩ : ByteArray), .string (⟨#[]⟩ : ByteArray), .slice none 0 0]) (blk_put (cs := #[.int .u8 0, .int .u8 0, .int .u8 0, .int .u8 0, .int .u32 0, .int .u16 0, .int .u16 0, .int .u32 0, .int .u32 0, .int .u32 0, .int .u32 0, .string (⟨#[]⟩ : ByteArray), .string (⟨#[]⟩ : ByteArray), .string (⟨#[]⟩ : ByteArray), .slice none 0 0]) BK236.out 0 _ rfl) 1 _ rfl) 2 _ rfl) 3 _ rfl) 4 _ rfl) 5 _ rfl) 6 _ rfl) 7 _ rfl) 8 _ rfl) 9 _ rfl) 10 _ rfl) 11 _ rfl) 12 _ rfl) 13 _ rfl) 14 _ rfl), (below_set (below_set (below_set (below_set (below_set (below_set (below_set (below_set (below_set (below_set (below_set (below_set (below_set (below_set (below_set HB.out GE236.out) GE236.out) GE236.out) GE236.out) GE236.out) GE236.out) GE236.out) GE236.out) GE236.out) GE236.out) GE236.out) GE236.out) GE236.out) GE236.out) GE236.out), NB235_236.out, GE236.out⟩)
  generalize hww : (((((((((((((((w45.setCell ⟨gb236, 0, none⟩ (.int .u8 (bt a0 0))).setCell ⟨gb236, 1, none⟩ (.int .u8 (bt a0 1))).setCell ⟨gb236, 2, none⟩ (.int .u8 (bt a0 2))).setCell ⟨gb236, 3, none⟩ (.int .u8 (bt a0 3))).setCell ⟨gb236, 4, none⟩ (.int .u32 0)).setCell ⟨gb236, 5, none⟩ (.int .u16 0)).setCell ⟨gb236, 6, none⟩ (.int .u16 0)).setCell ⟨gb236, 7, none⟩ (.int .u32 0)).setCell ⟨gb236, 8, none⟩ (.int .u32 0)).setCell ⟨gb236, 9, none⟩ (.int .u32 0)).setCell ⟨gb236, 10, none⟩ (.int .u32 0)).setCell ⟨gb236, 11, none⟩ (.string (a0.extract 28 44))).setCell ⟨gb236, 12, none⟩ (.string (a0.extract 44 108))).setCell ⟨gb236, 13, none⟩ (.string (a0.extract 108 236))).setCell ⟨gb236, 14, none⟩ (.slice none 0 0)) = wh at HD0 ⊢
  clear hww BK235 BK236 HB
  go_upto_region 9 with (go_at_call 36; refine (tenancyref14_word.calls k a0 4 t4 _ T4.out).mono ?_; rintro e wa8 ⟨rfl, hb⟩; have HDa8 := Aside0.mk (HD0.out.call hb.below); have hs : wa8.cell? ⟨gb236, 4, none⟩ = some (.int .u32 0) := (blk_cell HDa8.out.bb 4).trans rfl; have hfs := blk_frozen HDa8.out.bb 4; clear hb)
  have HDb8 := Aside0.mk (HDa8.out.put 4 (.int .u32 t4) #[.int .u8 (bt a0 0), .int .u8 (bt a0 1), .int .u8 (bt a0 2), .int .u8 (bt a0 3), .int .u32 t4, .int .u16 0, .int .u16 0, .int .u32 0, .int .u32 0, .int .u32 0, .int .u32 0, .string (a0.extract 28 44), .string (a0.extract 44 108), .string (a0.extract 108 236), .slice none 0 0] rfl)
  generalize wa8.setCell ⟨gb236, 4, none⟩ (.int .u32 t4) = wb8 at HDb8 ⊢
  clear hs hfs HD0 HDa8
  have BK235 := Aside0.mk HDb8.out.ba
  have BK236 := Aside0.mk HDb8.out.bb
  have HB := Aside0.mk HDb8.out.bel
  have n0_ := Aside0.mk (blk_drew BK235.out)
  have n1_ := Aside0.mk (blk_drew BK236.out)
  have n2_ := Aside0.mk (below_drew1 HB.out)
  clear BK235
  clear BK236
  clear HB
  have BK235 := n0_
  have BK236 := n1_
  have HB := n2_
  clear n0_ n1_ n2_
  have p27 : 0 ≤ (8 : Int) := (by omega)
  have q27 : 8 < a0.size := (by have : (8 : Int) < (a0.size : Int) := of_decide_eq_true (by first | (with_reducible assumption) | assumption); omega)
  have hx27 : ∀ h : 8 < a0.size, ((a0[8]'h).toNat : Int) = bt a0 8 := bt_at a0 8
  clear p27
  have qi27 : (8 < (a0.size : Int)) = True := eq_true (of_decide_eq_true (by first | (with_reducible assumption) | assumption))
  replace q27 := eq_true q27
  have p29 : 0 ≤ (9 : Int) := (by omega)
  have q29 : 9 < a0.size := (by have : (9 : Int) < (a0.size : Int) := of_decide_eq_true (by first | (with_reducible assumption) | assumption); omega)
  have hx29 : ∀ h : 9 < a0.size, ((a0[9]'h).toNat : Int) = bt a0 9 := bt_at a0 9
  clear p29
  have qi29 : (9 < (a0.size : Int)) = True := eq_true (of_decide_eq_true (by first | (with_reducible assumption) | assumption))
  replace q29 := eq_true q29
  refine start_ (n := 10) (S := fun w' => True) (ds := []) #[false, false, false, false, false, false, false, false, false, false] (by kernel_rfl) rfl rfl trivial (fun hHeld => ?_); refine with_tabW tenancyref14_Decode.tab9 tenancyref14_Decode.bits9 (fun HT_ HW_ => ?_)
  generalize wb8.drew = wd9 at BK235 BK236 HB hHeld ⊢
  refine pure_ (i := 0) (N := some 40) (v := ?_) (a' := ?_) #[true, false, false, false, false, false, false, false, false, false] rfl rfl (any_of HT_.out (by kernel_rfl)) (fun _ _ _ h => h) (Or.inl ⟨by rfl, ?_⟩) ?_ ?_
  rotate_left
  · intro w'
    go_simp
    with_reducible rfl
  rotate_left
  · simp only [Act.put, List.setIfInBounds_toArray, List.set_cons_zero, List.set_cons_succ, i64_w, i32_w]
    rfl
  refine pure_ (i := 4) (N := some 44) (v := ?_) (a' := ?_) #[true, false, false, false, true, false, false, false, false, false] rfl rfl (any_of HT_.out (by kernel_rfl)) (fun _ _ _ h => h) (Or.inl ⟨by rfl, ?_⟩) ?_ ?_
  rotate_left
  · intro w'
    go_simp
    with_reducible rfl
  rotate_left
  · simp only [Act.put, List.setIfInBounds_toArray, List.set_cons_zero, List.set_cons_succ, i64_w, i32_w]
    rfl
  refine take_ (i := 1) (N := some 41) (v := ?_) (a' := ?_) #[true, true, false, false, true, false, false, false, false, false] rfl rfl (take_ofW HT_.out HW_.out (by kernel_rfl)) (fun _ _ _ h => h) (Or.inl ⟨by rfl, ?_⟩) hHeld ?_ ?_
  rotate_left
  · intro w' _
    go_simp
    with_reducible rfl
  rotate_left
  · simp only [Act.put, List.setIfInBounds_toArray, List.set_cons_zero, List.set_cons_succ, i64_w, i32_w]
    rfl
  refine pure_ (i := 2) (N := some 42) (v := ?_) (a' := ?_) #[true, true, true, false, true, false, false, false, false, false] rfl rfl (any_of HT_.out (by kernel_rfl)) (fun _ _ _ h => h) (Or.inl ⟨by rfl, ?_⟩) ?_ ?_
  rotate_left
  · intro w'
    go_simp
    with_reducible rfl
  rotate_left
  · simp only [Act.put, List.setIfInBounds_toArray, List.set_cons_zero, List.set_cons_succ, i64_w, i32_w]
    rfl
  refine pure_ (i := 3) (N := some 43) (v := ?_) (a' := ?_) #[true, true, true, true, true, false, false, false, false, false] rfl rfl (any_of HT_.out (by kernel_rfl)) (fun _ _ _ h => h) (Or.inl ⟨by rfl, ?_⟩) ?_ ?_
  rotate_left
  · intro w'
    go_simp
    with_reducible rfl
  rotate_left
  · simp only [Act.put, List.setIfInBounds_toArray, List.set_cons_zero, List.set_cons_succ, i64_w, i32_w]
    rfl
  refine take_ (i := 5) (N := some 45) (v := ?_) (a' := ?_) #[true, true, true, true, true, true, false, false, false, false] rfl rfl (take_ofW HT_.out HW_.out (by kernel_rfl)) (fun _ _ _ h => h) (Or.inl ⟨by rfl, ?_⟩) hHeld ?_ ?_
  rotate_left
  · intro w' _
    go_simp
    with_reducible rfl
  rotate_left
  · simp only [Act.put, List.setIfInBounds_toArray, List.set_cons_zero, List.set_cons_succ, i64_w, i32_w]
    rfl
  refine pure_ (i := 6) (N := some 46) (v := ?_) (a' := ?_) #[true, true, true, true, true, true, true, false, false, false] rfl rfl (any_of HT_.out (by kernel_rfl)) (fun _ _ _ h => h) (Or.inl ⟨by rfl, ?_⟩) ?_ ?_
  rotate_left
  · intro w'
    go_simp
    with_reducible rfl
  rotate_left
  · simp only [Act.put, List.setIfInBounds_toArray, List.set_cons_zero, List.set_cons_succ, i64_w, i32_w]
    rfl
  refine pure_ (i := 7) (N := some 47) (v := ?_) (a' := ?_) #[true, true, true, true, true, true, true, true, false, false] rfl rfl (any_of HT_.out (by kernel_rfl)) (fun _ _ _ h => h) (Or.inl ⟨by rfl, ?_⟩) ?_ ?_
  rotate_left
  · intro w'
    go_simp
    with_reducible rfl
  rotate_left
  · simp only [Act.put, List.setIfInBounds_toArray, List.set_cons_zero, List.set_cons_succ, i64_w, i32_w]
    rfl
  refine pure_ (i := 8) (N := some 48) (v := ?_) (a' := ?_) #[true, true, true, true, true, true, true, true, true, false] rfl rfl (any_of HT_.out (by kernel_rfl)) (fun _ _ _ h => h) (Or.inl ⟨by rfl, ?_⟩) ?_ ?_
  rotate_left
  · intro w'
    go_simp
    with_reducible rfl
  rotate_left
  · simp only [Act.put, List.setIfInBounds_toArray, List.set_cons_zero, List.set_cons_succ, i64_w, i32_w]
    rfl
  refine one_ (i := 9) (N := none) #[true, true, true, true, true, true, true, true, true, true] rfl rfl (one_of HT_.out (by kernel_rfl)) (by decide) (fun K hK => ?_)
  have hs65 : wd9.cell? ⟨gb236, 5, none⟩ = some (.int .u16 0) := (blk_cell BK236.out 5).trans rfl
  have hfs65 := blk_frozen BK236.out 5
  have hns65_0 := NB235_236.out
  have hms65_0 := NB236_235.out
  refine skip_ (w1 := ?_) (by rfl) rfl ?_ ?_
  rotate_left
  · go_simp
    rfl
  refine hK.out _ _ trivial (fun hHeld => ?_)
  clear hK K
  refine done_ (done_of HT_.out (by kernel_rfl)) ?_
  have wd9D := Aside0.mk (show wire4_head.Hd w (wd9.setCell ⟨gb236, 5, none⟩ (.int .u16 (IntKind.u16.wrap ((IntKind.u16.wrap ((IntKind.u16.wrap (bt a0 8)) * 256)) + (IntKind.u16.wrap (bt a0 9)))))) gb235 gb236 #[.int .u8 (bt a0 0), .int .u8 (bt a0 1), .int .u8 (bt a0 2), .int .u8 (bt a0 3), .int .u32 t4, .int .u16 (IntKind.u16.wrap ((IntKind.u16.wrap ((IntKind.u16.wrap (bt a0 8)) * 256)) + (IntKind.u16.wrap (bt a0 9)))), .int .u16 0, .int .u32 0, .int .u32 0, .int .u32 0, .int .u32 0, .string (a0.extract 28 44), .string (a0.extract 44 108), .string (a0.extract 108 236), .slice none 0 0] from ⟨blk_far BK235.out NB235_236.out _, blk_put (cs := #[.int .u8 (bt a0 0), .int .u8 (bt a0 1), .int .u8 (bt a0 2), .int .u8 (bt a0 3), .int .u32 t4, .int .u16 0, .int .u16 0, .int .u32 0, .int .u32 0, .int .u32 0, .int .u32 0, .string (a0.extract 28 44), .string (a0.extract 44 108), .string (a0.extract 108 236), .slice none 0 0]) BK236.out 5 _ rfl, below_set HB.out GE236.out, NB235_236.out, GE236.out⟩)
  generalize wd9.setCell ⟨gb236, 5, none⟩ (.int .u16 (IntKind.u16.wrap ((IntKind.u16.wrap ((IntKind.u16.wrap (bt a0 8)) * 256)) + (IntKind.u16.wrap (bt a0 9))))) = wd9w at wd9D ⊢
  clear BK235 BK236 HB HDb8
  go_upto_region 10 with fail
  have BK235 := Aside0.mk wd9D.out.ba
  have BK236 := Aside0.mk wd9D.out.bb
  have HB := Aside0.mk wd9D.out.bel
  have n0_ := Aside0.mk (blk_drew BK235.out)
  have n1_ := Aside0.mk (blk_drew BK236.out)
  have n2_ := Aside0.mk (below_drew1 HB.out)
  clear BK235
  clear BK236
  clear HB
  have BK235 := n0_
  have BK236 := n1_
  have HB := n2_
  clear n0_ n1_ n2_
  have p31 : 0 ≤ (10 : Int) := (by omega)
  have q31 : 10 < a0.size := (by have : (10 : Int) < (a0.size : Int) := of_decide_eq_true (by first | (with_reducible assumption) | assumption); omega)
  have hx31 : ∀ h : 10 < a0.size, ((a0[10]'h).toNat : Int) = bt a0 10 := bt_at a0 10
  clear p31
  have qi31 : (10 < (a0.size : Int)) = True := eq_true (of_decide_eq_true (by first | (with_reducible assumption) | assumption))
  replace q31 := eq_true q31
  have p33 : 0 ≤ (11 : Int) := (by omega)
  have q33 : 11 < a0.size := (by have : (11 : Int) < (a0.size : Int) := of_decide_eq_true (by first | (with_reducible assumption) | assumption); omega)
  have hx33 : ∀ h : 11 < a0.size, ((a0[11]'h).toNat : Int) = bt a0 11 := bt_at a0 11
  clear p33
  have qi33 : (11 < (a0.size : Int)) = True := eq_true (of_decide_eq_true (by first | (with_reducible assumption) | assumption))
  replace q33 := eq_true q33
  refine start_ (n := 10) (S := fun w' => True) (ds := []) #[false, false, false, false, false, false, false, false, false, false] (by kernel_rfl) rfl rfl trivial (fun hHeld => ?_); refine with_tabW tenancyref14_Decode.tab10 tenancyref14_Decode.bits10 (fun HT_ HW_ => ?_)
  generalize wd9w.drew = wd10 at BK235 BK236 HB hHeld ⊢
  refine pure_ (i := 0) (N := some 49) (v := ?_) (a' := ?_) #[true, false, false, false, false, false, false, false, false, false] rfl rfl (any_of HT_.out (by kernel_rfl)) (fun _ _ _ h => h) (Or.inl ⟨by rfl, ?_⟩) ?_ ?_
  rotate_left
  · intro w'
    go_simp
    with_reducible rfl
  rotate_left
  · simp only [Act.put, List.setIfInBounds_toArray, List.set_cons_zero, List.set_cons_succ, i64_w, i32_w]
    rfl
  refine pure_ (i := 4) (N := some 53) (v := ?_) (a' := ?_) #[true, false, false, false, true, false, false, false, false, false] rfl rfl (any_of HT_.out (by kernel_rfl)) (fun _ _ _ h => h) (Or.inl ⟨by rfl, ?_⟩) ?_ ?_
  rotate_left
  · intro w'
    go_simp
    with_reducible rfl
  rotate_left
  · simp only [Act.put, List.setIfInBounds_toArray, List.set_cons_zero, List.set_cons_succ, i64_w, i32_w]
    rfl
  refine take_ (i := 1) (N := some 50) (v := ?_) (a' := ?_) #[true, true, false, false, true, false, false, false, false, false] rfl rfl (take_ofW HT_.out HW_.out (by kernel_rfl)) (fun _ _ _ h => h) (Or.inl ⟨by rfl, ?_⟩) hHeld ?_ ?_
  rotate_left
  · intro w' _
    go_simp
    with_reducible rfl
  rotate_left
  · simp only [Act.put, List.setIfInBounds_toArray, List.set_cons_zero, List.set_cons_succ, i64_w, i32_w]
    rfl
  refine pure_ (i := 2) (N := some 51) (v := ?_) (a' := ?_) #[true, true, true, false, true, false, false, false, false, false] rfl rfl (any_of HT_.out (by kernel_rfl)) (fun _ _ _ h => h) (Or.inl ⟨by rfl, ?_⟩) ?_ ?_
  rotate_left
  · intro w'
    go_simp
    with_reducible rfl
  rotate_left
  · simp only [Act.put, List.setIfInBounds_toArray, List.set_cons_zero, List.set_cons_succ, i64_w, i32_w]
    rfl
  refine pure_ (i := 3) (N := some 52) (v := ?_) (a' := ?_) #[true, true, true, true, true, false, false, false, false, false] rfl rfl (any_of HT_.out (by kernel_rfl)) (fun _ _ _ h => h) (Or.inl ⟨by rfl, ?_⟩) ?_ ?_
  rotate_left
  · intro w'
    go_simp
    with_reducible rfl
  rotate_left
  · simp only [Act.put, List.setIfInBounds_toArray, List.set_cons_zero, List.set_cons_succ, i64_w, i32_w]
    rfl
  refine take_ (i := 5) (N := some 54) (v := ?_) (a' := ?_) #[true, true, true, true, true, true, false, false, false, false] rfl rfl (take_ofW HT_.out HW_.out (by kernel_rfl)) (fun _ _ _ h => h) (Or.inl ⟨by rfl, ?_⟩) hHeld ?_ ?_
  rotate_left
  · intro w' _
    go_simp
    with_reducible rfl
  rotate_left
  · simp only [Act.put, List.setIfInBounds_toArray, List.set_cons_zero, List.set_cons_succ, i64_w, i32_w]
    rfl
  refine pure_ (i := 6) (N := some 55) (v := ?_) (a' := ?_) #[true, true, true, true, true, true, true, false, false, false] rfl rfl (any_of HT_.out (by kernel_rfl)) (fun _ _ _ h => h) (Or.inl ⟨by rfl, ?_⟩) ?_ ?_
  rotate_left
  · intro w'
    go_simp
    with_reducible rfl
  rotate_left
  · simp only [Act.put, List.setIfInBounds_toArray, List.set_cons_zero, List.set_cons_succ, i64_w, i32_w]
    rfl
  refine pure_ (i := 7) (N := some 56) (v := ?_) (a' := ?_) #[true, true, true, true, true, true, true, true, false, false] rfl rfl (any_of HT_.out (by kernel_rfl)) (fun _ _ _ h => h) (Or.inl ⟨by rfl, ?_⟩) ?_ ?_
  rotate_left
  · intro w'
    go_simp
    with_reducible rfl
  rotate_left
  · simp only [Act.put, List.setIfInBounds_toArray, List.set_cons_zero, List.set_cons_succ, i64_w, i32_w]
    rfl
  refine pure_ (i := 8) (N := some 57) (v := ?_) (a' := ?_) #[true, true, true, true, true, true, true, true, true, false] rfl rfl (any_of HT_.out (by kernel_rfl)) (fun _ _ _ h => h) (Or.inl ⟨by rfl, ?_⟩) ?_ ?_
  rotate_left
  · intro w'
    go_simp
    with_reducible rfl
  rotate_left
  · simp only [Act.put, List.setIfInBounds_toArray, List.set_cons_zero, List.set_cons_succ, i64_w, i32_w]
    rfl
  refine one_ (i := 9) (N := none) #[true, true, true, true, true, true, true, true, true, true] rfl rfl (one_of HT_.out (by kernel_rfl)) (by decide) (fun K hK => ?_)
  have hs68 : wd10.cell? ⟨gb236, 6, none⟩ = some (.int .u16 0) := (blk_cell BK236.out 6).trans rfl
  have hfs68 := blk_frozen BK236.out 6
  have hns68_0 := NB235_236.out
  have hms68_0 := NB236_235.out
  refine skip_ (w1 := ?_) (by rfl) rfl ?_ ?_
  rotate_left
  · go_simp
    rfl
  refine hK.out _ _ trivial (fun hHeld => ?_)
  clear hK K
  refine done_ (done_of HT_.out (by kernel_rfl)) ?_
  have wd10D := Aside0.mk (show wire4_head.Hd w (wd10.setCell ⟨gb236, 6, none⟩ (.int .u16 (IntKind.u16.wrap ((IntKind.u16.wrap ((IntKind.u16.wrap (bt a0 10)) * 256)) + (IntKind.u16.wrap (bt a0 11)))))) gb235 gb236 #[.int .u8 (bt a0 0), .int .u8 (bt a0 1), .int .u8 (bt a0 2), .int .u8 (bt a0 3), .int .u32 t4, .int .u16 (IntKind.u16.wrap ((IntKind.u16.wrap ((IntKind.u16.wrap (bt a0 8)) * 256)) + (IntKind.u16.wrap (bt a0 9)))), .int .u16 (IntKind.u16.wrap ((IntKind.u16.wrap ((IntKind.u16.wrap (bt a0 10)) * 256)) + (IntKind.u16.wrap (bt a0 11)))), .int .u32 0, .int .u32 0, .int .u32 0, .int .u32 0, .string (a0.extract 28 44), .string (a0.extract 44 108), .string (a0.extract 108 236), .slice none 0 0] from ⟨blk_far BK235.out NB235_236.out _, blk_put (cs := #[.int .u8 (bt a0 0), .int .u8 (bt a0 1), .int .u8 (bt a0 2), .int .u8 (bt a0 3), .int .u32 t4, .int .u16 (IntKind.u16.wrap ((IntKind.u16.wrap ((IntKind.u16.wrap (bt a0 8)) * 256)) + (IntKind.u16.wrap (bt a0 9)))), .int .u16 0, .int .u32 0, .int .u32 0, .int .u32 0, .int .u32 0, .string (a0.extract 28 44), .string (a0.extract 44 108), .string (a0.extract 108 236), .slice none 0 0]) BK236.out 6 _ rfl, below_set HB.out GE236.out, NB235_236.out, GE236.out⟩)
  generalize wd10.setCell ⟨gb236, 6, none⟩ (.int .u16 (IntKind.u16.wrap ((IntKind.u16.wrap ((IntKind.u16.wrap (bt a0 10)) * 256)) + (IntKind.u16.wrap (bt a0 11))))) = wd10w at wd10D ⊢
  clear BK235 BK236 HB wd9D
  go_upto_region 12 with (go_at_call 36; refine (tenancyref14_word.calls k a0 12 t12 _ T12.out).mono ?_; rintro e wa11 ⟨rfl, hb⟩; have HDa11 := Aside0.mk (wd10D.out.call hb.below); have hs : wa11.cell? ⟨gb236, 7, none⟩ = some (.int .u32 0) := (blk_cell HDa11.out.bb 7).trans rfl; have hfs := blk_frozen HDa11.out.bb 7; clear hb)
  have HDb11 := Aside0.mk (HDa11.out.put 7 (.int .u32 t12) #[.int .u8 (bt a0 0), .int .u8 (bt a0 1), .int .u8 (bt a0 2), .int .u8 (bt a0 3), .int .u32 t4, .int .u16 (IntKind.u16.wrap ((IntKind.u16.wrap ((IntKind.u16.wrap (bt a0 8)) * 256)) + (IntKind.u16.wrap (bt a0 9)))), .int .u16 (IntKind.u16.wrap ((IntKind.u16.wrap ((IntKind.u16.wrap (bt a0 10)) * 256)) + (IntKind.u16.wrap (bt a0 11)))), .int .u32 t12, .int .u32 0, .int .u32 0, .int .u32 0, .string (a0.extract 28 44), .string (a0.extract 44 108), .string (a0.extract 108 236), .slice none 0 0] rfl)
  generalize wa11.setCell ⟨gb236, 7, none⟩ (.int .u32 t12) = wb11 at HDb11 ⊢
  clear hs hfs wd10D HDa11
  go_upto_region 13 with (go_at_call 36; refine (tenancyref14_word.calls k a0 16 t16 _ T16.out).mono ?_; rintro e wa12 ⟨rfl, hb⟩; have HDa12 := Aside0.mk (HDb11.out.call hb.below); have hs : wa12.cell? ⟨gb236, 8, none⟩ = some (.int .u32 0) := (blk_cell HDa12.out.bb 8).trans rfl; have hfs := blk_frozen HDa12.out.bb 8; clear hb)
  have HDb12 := Aside0.mk (HDa12.out.put 8 (.int .u32 t16) #[.int .u8 (bt a0 0), .int .u8 (bt a0 1), .int .u8 (bt a0 2), .int .u8 (bt a0 3), .int .u32 t4, .int .u16 (IntKind.u16.wrap ((IntKind.u16.wrap ((IntKind.u16.wrap (bt a0 8)) * 256)) + (IntKind.u16.wrap (bt a0 9)))), .int .u16 (IntKind.u16.wrap ((IntKind.u16.wrap ((IntKind.u16.wrap (bt a0 10)) * 256)) + (IntKind.u16.wrap (bt a0 11)))), .int .u32 t12, .int .u32 t16, .int .u32 0, .int .u32 0, .string (a0.extract 28 44), .string (a0.extract 44 108), .string (a0.extract 108 236), .slice none 0 0] rfl)
  generalize wa12.setCell ⟨gb236, 8, none⟩ (.int .u32 t16) = wb12 at HDb12 ⊢
  clear hs hfs HDb11 HDa12
  go_upto_region 14 with (go_at_call 36; refine (tenancyref14_word.calls k a0 20 t20 _ T20.out).mono ?_; rintro e wa13 ⟨rfl, hb⟩; have HDa13 := Aside0.mk (HDb12.out.call hb.below); have hs : wa13.cell? ⟨gb236, 9, none⟩ = some (.int .u32 0) := (blk_cell HDa13.out.bb 9).trans rfl; have hfs := blk_frozen HDa13.out.bb 9; clear hb)
  have HDb13 := Aside0.mk (HDa13.out.put 9 (.int .u32 t20) #[.int .u8 (bt a0 0), .int .u8 (bt a0 1), .int .u8 (bt a0 2), .int .u8 (bt a0 3), .int .u32 t4, .int .u16 (IntKind.u16.wrap ((IntKind.u16.wrap ((IntKind.u16.wrap (bt a0 8)) * 256)) + (IntKind.u16.wrap (bt a0 9)))), .int .u16 (IntKind.u16.wrap ((IntKind.u16.wrap ((IntKind.u16.wrap (bt a0 10)) * 256)) + (IntKind.u16.wrap (bt a0 11)))), .int .u32 t12, .int .u32 t16, .int .u32 t20, .int .u32 0, .string (a0.extract 28 44), .string (a0.extract 44 108), .string (a0.extract 108 236), .slice none 0 0] rfl)
  generalize wa13.setCell ⟨gb236, 9, none⟩ (.int .u32 t20) = wb13 at HDb13 ⊢
  clear hs hfs HDb12 HDa13
  go_upto_region 15 with (go_at_call 36; refine (tenancyref14_word.calls k a0 24 t24 _ T24.out).mono ?_; rintro e wa14 ⟨rfl, hb⟩; have HDa14 := Aside0.mk (HDb13.out.call hb.below); have hs : wa14.cell? ⟨gb236, 10, none⟩ = some (.int .u32 0) := (blk_cell HDa14.out.bb 10).trans rfl; have hfs := blk_frozen HDa14.out.bb 10; clear hb)
  have HDb14 := Aside0.mk (HDa14.out.put 10 (.int .u32 t24) #[.int .u8 (bt a0 0), .int .u8 (bt a0 1), .int .u8 (bt a0 2), .int .u8 (bt a0 3), .int .u32 t4, .int .u16 (IntKind.u16.wrap ((IntKind.u16.wrap ((IntKind.u16.wrap (bt a0 8)) * 256)) + (IntKind.u16.wrap (bt a0 9)))), .int .u16 (IntKind.u16.wrap ((IntKind.u16.wrap ((IntKind.u16.wrap (bt a0 10)) * 256)) + (IntKind.u16.wrap (bt a0 11)))), .int .u32 t12, .int .u32 t16, .int .u32 t20, .int .u32 t24, .string (a0.extract 28 44), .string (a0.extract 44 108), .string (a0.extract 108 236), .slice none 0 0] rfl)
  generalize wa14.setCell ⟨gb236, 10, none⟩ (.int .u32 t24) = wb14 at HDb14 ⊢
  clear hs hfs HDb13 HDa14
  obtain ⟨y, hy⟩ : ∃ y : List ByteArray, y = [a0.extract 240 a0.size] := ⟨_, rfl⟩
  have h := H5.out
  rw [← hy] at h
  have NY := Aside0.mk hy
  clear hy H5
  obtain ⟨⟨pl, pe⟩, hp, h6⟩ := Option.bind_eq_some_iff.1 h
  clear h
  dsimp only at h6
  have HP := Aside0.mk hp
  have H6 := Aside0.mk h6
  clear hp h6
  go_upto_region 16 with ((with_reducible refine gate_dst (N := 72) rfl ?_); refine Kd.R_lit Kd.string _ 9 ?hg (N := 72) ?hd (xs := ([a0.extract 240 a0.size] : List ByteArray)) (inner := [.string (a0.extract 240 a0.size)]) (ok := fun _ => True) (okp := fun _ => True) ?hr ?hp (fun _ hk => hk) trivial (Below.refl _ _) (Nat.le_refl _) (by simp) ?_; (case hd => rfl); (case hg => rfl); (case hr => first | (go_simp; done) | (go_simp; rfl)); (case hp => exact (Reps.one (show Kd.M Kd.string _ _ _ (a0.extract 240 a0.size) [.string (a0.extract 240 a0.size)] from rfl) (Reps.none _ _))); intro va wl hor hb hgr hnew; rw [← NY.out] at hor; obtain ⟨Aa, ca, rfl⟩ := Kd.R_slice hor; have HOa := Aside0.mk (Kd.R_lower hor HDb14.out.bel.size); have HDl := Aside0.mk (HDb14.out.call hb); clear hor hb hgr hnew)
  clear HDb14
  go_upto_region 17 with (go_at_call 37; refine (tenancyref13_Parse.calls k Aa ca y pl pe _ (Kd.R_reads' HOa.out).2.2 (Kd.R_reads' HOa.out).2.1 HP.out).mono ?_; rintro e wp ⟨vp, rfl, hor, hb⟩; obtain ⟨Ap, cp, rfl, hlc, hkc⟩ := Kd.R_reads hor; have HKp := Aside0.mk hkc; have HLp := Aside0.mk hlc; have HDp := Aside0.mk (HDl.out.call hb); have HOp := Aside0.mk (Kd.R_below HOa.out hb); clear hor hb hkc hlc)
  clear HDl HOa
  have h := H6.out
  by_cases c5 : pe = 0
  case neg =>
    rw [if_neg c5] at h
    simp only [Option.some.injEq, Prod.mk.injEq] at h
    obtain ⟨rfl, rfl, rfl, rfl, rfl, rfl, rfl, rfl, rfl, rfl, rfl, rfl, rfl, rfl, rfl, rfl⟩ := h
    have hc5 : (pe == 0) = false := by simpa using c5
    have hc6 : (pe != 0) = true := by simpa using c5
    clear H6 c5
    go_wp2_with ((with_reducible refine gate_store (p := 2) rfl ?_); refine XBox.storeL_ rfl rfl 26 rfl gb235 rfl #[.int .u8 0, .int .u8 0, .int .u8 0, .int .u8 0, .int .u32 0, .int .u16 0, .int .u16 0, .int .u32 0, .int .u32 0, .int .u32 0, .int .u32 0, .string (⟨#[]⟩ : ByteArray), .string (⟨#[]⟩ : ByteArray), .string (⟨#[]⟩ : ByteArray), .slice none 0 0] #[.int .u8 0, .int .u8 0, .int .u8 0, .int .u8 0, .int .u32 0, .int .u16 0, .int .u16 0, .int .u32 0, .int .u32 0, .int .u32 0, .int .u32 0, .string (⟨#[]⟩ : ByteArray), .string (⟨#[]⟩ : ByteArray), .string (⟨#[]⟩ : ByteArray), .slice none 0 0] rfl HDp.out.ba hi26 (Eq.refl 15) (by simp [Value.oneCell']) ?_; intro wz hw1 hw2 hw3; have BR := Aside0.mk hw1; have HR := Aside0.mk (HDp.out.bel.trans (hw2 _ GE235.out)); clear hw1 hw2 hw3)
    refine bodyPost_ret (results_ct rfl _ _ gb235 26 #[.int .u8 0, .int .u8 0, .int .u8 0, .int .u8 0, .int .u32 0, .int .u16 0, .int .u16 0, .int .u32 0, .int .u32 0, .int .u32 0, .int .u32 0, .string (⟨#[]⟩ : ByteArray), .string (⟨#[]⟩ : ByteArray), .string (⟨#[]⟩ : ByteArray), .slice none 0 0] (0, 0) _ rfl BR.out hu26 rfl (by kernel_rfl)) rfl ?_
    exact ⟨_, rfl, Kd.R_nil _ _ _ _ _, HR.out⟩
  subst c5
  rw [if_pos rfl] at h
  obtain ⟨⟨fd, fo⟩, hfd, h7⟩ := Option.bind_eq_some_iff.1 h
  clear h H6
  dsimp only at h7
  have HF := Aside0.mk hfd
  have H7 := Aside0.mk h7
  clear hfd h7
  go_upto_region 20 with (go_at_call 33; refine (tenancyref13_Find.calls k Ap cp pl 52 fd fo _ HKp.out HLp.out HF.out).mono ?_; rintro e wf ⟨rfl, hb⟩; have HDf := Aside0.mk (HDp.out.call hb.below); have HOf := Aside0.mk (Kd.R_below HOp.out hb.below); clear hb)
  clear HDp HOp HKp HLp
  have h := H7.out
  clear H7
  cases fo with
  | false =>
    rw [if_neg (by decide)] at h
    obtain ⟨kk, rfl⟩ : ∃ kk, k = kk + 1 + 4 := by
      rcases k with _ | _ | _ | _ | _ | kk
      all_goals first | exact ⟨_, rfl⟩ | (exfalso; simp [tenancyref14_Decode.j0, tenancyref14_Decode.j1, tenancyref14_Decode.j2, tenancyref14_Decode.j3, tenancyref14_Decode.j4] at h)
    rw [tenancyref14_Decode.j0, if_neg (by decide), if_neg (by decide), tenancyref14_Decode.j1, if_neg (by decide), tenancyref14_Decode.j2, if_neg (by decide), tenancyref14_Decode.j3, if_neg (by decide)] at h
    rw [tenancyref14_Decode.j4] at h
    obtain ⟨⟨pm, pq⟩, hp2, h8⟩ := Option.bind_eq_some_iff.1 h
    clear h
    dsimp only at h8
    have HP2 := Aside0.mk hp2
    have h := h8
    clear h8 hp2
    have H8 := Aside0.mk h
    clear h
    go_upto_region 29 with (go_at_call 37; refine (tenancyref13_Parse.calls kk _ _ y pm pq _ (Kd.R_reads' HOf.out).2.2 (Kd.R_reads' HOf.out).2.1 HP2.out).mono ?_; rintro e wq ⟨vq, rfl, hor, hb⟩; obtain ⟨Aq, cq, rfl, hlc, hkc⟩ := Kd.R_reads hor; have HKq := Aside0.mk hkc; have HLq := Aside0.mk hlc; have HDq := Aside0.mk (HDf.out.call hb); clear hor hb hkc hlc)
    have h := H8.out
    by_cases c8 : pq = 0
    case neg =>
      rw [if_neg c8] at h
      simp only [Option.some.injEq, Prod.mk.injEq] at h
      obtain ⟨rfl, rfl, rfl, rfl, rfl, rfl, rfl, rfl, rfl, rfl, rfl, rfl, rfl, rfl, rfl, rfl⟩ := h
      have hc8 : (pq == 0) = false := by simpa using c8
      have hc9 : (pq != 0) = true := by simpa using c8
      clear H8 c8
      go_wp2_with ((with_reducible refine gate_store (p := 2) rfl ?_); refine XBox.storeL_ rfl rfl 26 rfl gb235 rfl #[.int .u8 0, .int .u8 0, .int .u8 0, .int .u8 0, .int .u32 0, .int .u16 0, .int .u16 0, .int .u32 0, .int .u32 0, .int .u32 0, .int .u32 0, .string (⟨#[]⟩ : ByteArray), .string (⟨#[]⟩ : ByteArray), .string (⟨#[]⟩ : ByteArray), .slice none 0 0] #[.int .u8 0, .int .u8 0, .int .u8 0, .int .u8 0, .int .u32 0, .int .u16 0, .int .u16 0, .int .u32 0, .int .u32 0, .int .u32 0, .int .u32 0, .string (⟨#[]⟩ : ByteArray), .string (⟨#[]⟩ : ByteArray), .string (⟨#[]⟩ : ByteArray), .slice none 0 0] rfl HDq.out.ba hi26 (Eq.refl 15) (by simp [Value.oneCell']) ?_; intro wz hw1 hw2 hw3; have BR := Aside0.mk hw1; have HR := Aside0.mk (HDq.out.bel.trans (hw2 _ GE235.out)); clear hw1 hw2 hw3)
      refine bodyPost_ret (results_ct rfl _ _ gb235 26 #[.int .u8 0, .int .u8 0, .int .u8 0, .int .u8 0, .int .u32 0, .int .u16 0, .int .u16 0, .int .u32 0, .int .u32 0, .int .u32 0, .int .u32 0, .string (⟨#[]⟩ : ByteArray), .string (⟨#[]⟩ : ByteArray), .string (⟨#[]⟩ : ByteArray), .slice none 0 0] (0, 0) _ rfl BR.out hu26 rfl (by kernel_rfl)) rfl ?_
      exact ⟨_, rfl, Kd.R_nil _ _ _ _ _, HR.out⟩
    subst c8
    rw [if_pos rfl] at h
    obtain ⟨wt, hwt, h9⟩ := Option.bind_eq_some_iff.1 h
    clear h H8
    have h := h9
    clear h9
    simp only [Option.some.injEq, Prod.mk.injEq] at h
    obtain ⟨rfl, rfl, rfl, rfl, rfl, rfl, rfl, rfl, rfl, rfl, rfl, rfl, rfl, rfl, rfl, rfl⟩ := h
    have HWT := Aside0.mk hwt
    clear hwt
    go_upto_region 32 with (go_at_call 38; refine (tenancyref13_Without.calls kk Aq cq pm 52 wt _ HKq.out HLq.out HWT.out).mono ?_; rintro e wr ⟨vw, rfl, hor, hb⟩; obtain ⟨Aw, cw, rfl⟩ := Kd.R_slice hor; have HOw := Aside0.mk hor; have HDr := Aside0.mk (HDq.out.call hb); have hcg : wr.cell? ⟨gb236, 14, none⟩ = some (.slice none 0 0) := (blk_cell HDr.out.bb 14).trans rfl; have hfg := blk_frozen HDr.out.bb 14; clear hor hb)
    have HLTg := Aside0.mk (blk_lt HDq.out.bb)
    have HLTa := Aside0.mk (blk_lt HDq.out.ba)
    have HSz := Aside0.mk HDq.out.bel.size
    have HDs := Aside0.mk (HDr.out.put 14 (.slice Aw wt.length cw) #[.int .u8 (bt a0 0), .int .u8 (bt a0 1), .int .u8 (bt a0 2), .int .u8 (bt a0 3), .int .u32 t4, .int .u16 (IntKind.u16.wrap ((IntKind.u16.wrap ((IntKind.u16.wrap (bt a0 8)) * 256)) + (IntKind.u16.wrap (bt a0 9)))), .int .u16 (IntKind.u16.wrap ((IntKind.u16.wrap ((IntKind.u16.wrap (bt a0 10)) * 256)) + (IntKind.u16.wrap (bt a0 11)))), .int .u32 t12, .int .u32 t16, .int .u32 t20, .int .u32 t24, .string (a0.extract 28 44), .string (a0.extract 44 108), .string (a0.extract 108 236), .slice Aw wt.length cw] rfl)
    have HOh := Aside0.mk (show Kd.R k47 47 (wr.setCell ⟨gb236, 14, none⟩ (.slice Aw wt.length cw)) wq.heap.size (fun k => True ∧ wq.heap.size ≤ k) (.slice Aw wt.length cw) wt from Kd.R_far (Kd.R_mono (Kd.R_bound HOw.out) (fun k hk => ⟨trivial, hk.2.1⟩)) (fun k hk => Nat.ne_of_gt (Nat.lt_of_lt_of_le HLTg.out hk.2)) _)
    generalize wr.setCell ⟨gb236, 14, none⟩ (.slice Aw wt.length cw) = wh at HDs HOh ⊢
    clear hcg hfg HDr HDq
    go_wp2_with (first | ((with_reducible refine gate_dst (N := 143) rfl ?_); refine XBox.loadL_ 143 rfl rfl 26 rfl gb236 rfl #[.int .u8 (bt a0 0), .int .u8 (bt a0 1), .int .u8 (bt a0 2), .int .u8 (bt a0 3), .int .u32 t4, .int .u16 (IntKind.u16.wrap ((IntKind.u16.wrap ((IntKind.u16.wrap (bt a0 8)) * 256)) + (IntKind.u16.wrap (bt a0 9)))), .int .u16 (IntKind.u16.wrap ((IntKind.u16.wrap ((IntKind.u16.wrap (bt a0 10)) * 256)) + (IntKind.u16.wrap (bt a0 11)))), .int .u32 t12, .int .u32 t16, .int .u32 t20, .int .u32 t24, .string (a0.extract 28 44), .string (a0.extract 44 108), .string (a0.extract 108 236), .slice Aw wt.length cw] HDs.out.bb hu26 rfl hi26 ?_; simp only [Act.put, List.setIfInBounds_toArray, List.set_cons_zero, List.set_cons_succ]) | ((with_reducible refine gate_store (p := 2) rfl ?_); refine XBox.storeL_ rfl rfl 26 rfl gb235 rfl #[.int .u8 0, .int .u8 0, .int .u8 0, .int .u8 0, .int .u32 0, .int .u16 0, .int .u16 0, .int .u32 0, .int .u32 0, .int .u32 0, .int .u32 0, .string (⟨#[]⟩ : ByteArray), .string (⟨#[]⟩ : ByteArray), .string (⟨#[]⟩ : ByteArray), .slice none 0 0] #[.int .u8 (bt a0 0), .int .u8 (bt a0 1), .int .u8 (bt a0 2), .int .u8 (bt a0 3), .int .u32 t4, .int .u16 (IntKind.u16.wrap ((IntKind.u16.wrap ((IntKind.u16.wrap (bt a0 8)) * 256)) + (IntKind.u16.wrap (bt a0 9)))), .int .u16 (IntKind.u16.wrap ((IntKind.u16.wrap ((IntKind.u16.wrap (bt a0 10)) * 256)) + (IntKind.u16.wrap (bt a0 11)))), .int .u32 t12, .int .u32 t16, .int .u32 t20, .int .u32 t24, .string (a0.extract 28 44), .string (a0.extract 44 108), .string (a0.extract 108 236), .slice Aw wt.length cw] rfl HDs.out.ba hi26 (Eq.refl 15) (by simp [Value.oneCell']) ?_; intro wi hw1 hw2 hw3; have BR := Aside0.mk hw1; have HR := Aside0.mk (HDs.out.bel.trans (hw2 _ GE235.out)); have HOr := Aside0.mk (Kd.R_lower (Kd.R_mono (Kd.R_step HOh.out (fun k hk _ => hw3 k (Nat.ne_of_gt (Nat.lt_of_lt_of_le HLTa.out hk.2)))) (fun _ _ => trivial)) HSz.out); clear hw1 hw2 hw3))
    refine bodyPost_ret (results_ct rfl _ _ gb235 26 #[.int .u8 (bt a0 0), .int .u8 (bt a0 1), .int .u8 (bt a0 2), .int .u8 (bt a0 3), .int .u32 t4, .int .u16 (IntKind.u16.wrap ((IntKind.u16.wrap ((IntKind.u16.wrap (bt a0 8)) * 256)) + (IntKind.u16.wrap (bt a0 9)))), .int .u16 (IntKind.u16.wrap ((IntKind.u16.wrap ((IntKind.u16.wrap (bt a0 10)) * 256)) + (IntKind.u16.wrap (bt a0 11)))), .int .u32 t12, .int .u32 t16, .int .u32 t20, .int .u32 t24, .string (a0.extract 28 44), .string (a0.extract 44 108), .string (a0.extract 108 236), .slice Aw wt.length cw] (0, 0) _ rfl BR.out hu26 rfl (by kernel_rfl)) rfl ?_
    exact ⟨_, rfl, HOr.out, HR.out⟩
  | true =>
    rw [if_pos rfl] at h
    by_cases s1 : (fd.size : Int) = 1
    case neg =>
      rw [if_neg s1] at h
      obtain ⟨kk, rfl⟩ : ∃ kk, k = kk + 1 := by
        rcases k with _ | kk
        all_goals first | exact ⟨_, rfl⟩ | (exfalso; simp [tenancyref14_Decode.j0, tenancyref14_Decode.j1, tenancyref14_Decode.j2, tenancyref14_Decode.j3, tenancyref14_Decode.j4] at h)
      rw [tenancyref14_Decode.j0, if_pos rfl] at h
      simp only [Option.some.injEq, Prod.mk.injEq] at h
      obtain ⟨rfl, rfl, rfl, rfl, rfl, rfl, rfl, rfl, rfl, rfl, rfl, rfl, rfl, rfl, rfl, rfl⟩ := h
      have hs1 : ((fd.size : Int) != 1) = true := bne_iff_ne.mpr s1
      have hs2 : ((fd.size : Int) == 1) = false := beq_eq_false_iff_ne.mpr s1
      clear s1
      go_wp2_with ((with_reducible refine gate_store (p := 2) rfl ?_); refine XBox.storeL_ rfl rfl 26 rfl gb235 rfl #[.int .u8 0, .int .u8 0, .int .u8 0, .int .u8 0, .int .u32 0, .int .u16 0, .int .u16 0, .int .u32 0, .int .u32 0, .int .u32 0, .int .u32 0, .string (⟨#[]⟩ : ByteArray), .string (⟨#[]⟩ : ByteArray), .string (⟨#[]⟩ : ByteArray), .slice none 0 0] #[.int .u8 0, .int .u8 0, .int .u8 0, .int .u8 0, .int .u32 0, .int .u16 0, .int .u16 0, .int .u32 0, .int .u32 0, .int .u32 0, .int .u32 0, .string (⟨#[]⟩ : ByteArray), .string (⟨#[]⟩ : ByteArray), .string (⟨#[]⟩ : ByteArray), .slice none 0 0] rfl HDf.out.ba hi26 (Eq.refl 15) (by simp [Value.oneCell']) ?_; intro wz hw1 hw2 hw3; have BR := Aside0.mk hw1; have HR := Aside0.mk (HDf.out.bel.trans (hw2 _ GE235.out)); clear hw1 hw2 hw3)
      refine bodyPost_ret (results_ct rfl _ _ gb235 26 #[.int .u8 0, .int .u8 0, .int .u8 0, .int .u8 0, .int .u32 0, .int .u16 0, .int .u16 0, .int .u32 0, .int .u32 0, .int .u32 0, .int .u32 0, .string (⟨#[]⟩ : ByteArray), .string (⟨#[]⟩ : ByteArray), .string (⟨#[]⟩ : ByteArray), .slice none 0 0] (0, 0) _ rfl BR.out hu26 rfl (by kernel_rfl)) rfl ?_
      exact ⟨_, rfl, Kd.R_nil _ _ _ _ _, HR.out⟩
    rw [if_pos s1, if_pos (by omega)] at h
    have hs1 : ((fd.size : Int) != 1) = false := bne_eq_false_iff_eq.mpr s1
    have hs3 : fd.size = 1 := by omega
    have q8 : (0 < fd.size) = True := eq_true (by omega)
    have qi8 : ((0 : Int) < (fd.size : Int)) = True := eq_true (by omega)
    have qd8 : decide ((0 : Int) < (fd.size : Int)) = true := decide_eq_true (by omega)
    by_cases b1 : bt fd 0 < 1
    case pos =>
      rw [if_pos b1] at h
      obtain ⟨kk, rfl⟩ : ∃ kk, k = kk + 1 := by
        rcases k with _ | kk
        all_goals first | exact ⟨_, rfl⟩ | (exfalso; simp [tenancyref14_Decode.j0, tenancyref14_Decode.j1, tenancyref14_Decode.j2, tenancyref14_Decode.j3, tenancyref14_Decode.j4] at h)
      rw [tenancyref14_Decode.j0, if_pos rfl] at h
      simp only [Option.some.injEq, Prod.mk.injEq] at h
      obtain ⟨rfl, rfl, rfl, rfl, rfl, rfl, rfl, rfl, rfl, rfl, rfl, rfl, rfl, rfl, rfl, rfl⟩ := h
      have hx8 : ∀ h : 0 < fd.size, ((fd[0]'h).toNat : Int) = bt fd 0 := bt_at fd 0
      have hb1 : decide (bt fd 0 < 1) = true := decide_eq_true b1
      clear b1 s1
      go_wp2_with ((with_reducible refine gate_store (p := 2) rfl ?_); refine XBox.storeL_ rfl rfl 26 rfl gb235 rfl #[.int .u8 0, .int .u8 0, .int .u8 0, .int .u8 0, .int .u32 0, .int .u16 0, .int .u16 0, .int .u32 0, .int .u32 0, .int .u32 0, .int .u32 0, .string (⟨#[]⟩ : ByteArray), .string (⟨#[]⟩ : ByteArray), .string (⟨#[]⟩ : ByteArray), .slice none 0 0] #[.int .u8 0, .int .u8 0, .int .u8 0, .int .u8 0, .int .u32 0, .int .u16 0, .int .u16 0, .int .u32 0, .int .u32 0, .int .u32 0, .int .u32 0, .string (⟨#[]⟩ : ByteArray), .string (⟨#[]⟩ : ByteArray), .string (⟨#[]⟩ : ByteArray), .slice none 0 0] rfl HDf.out.ba hi26 (Eq.refl 15) (by simp [Value.oneCell']) ?_; intro wz hw1 hw2 hw3; have BR := Aside0.mk hw1; have HR := Aside0.mk (HDf.out.bel.trans (hw2 _ GE235.out)); clear hw1 hw2 hw3)
      refine bodyPost_ret (results_ct rfl _ _ gb235 26 #[.int .u8 0, .int .u8 0, .int .u8 0, .int .u8 0, .int .u32 0, .int .u16 0, .int .u16 0, .int .u32 0, .int .u32 0, .int .u32 0, .int .u32 0, .string (⟨#[]⟩ : ByteArray), .string (⟨#[]⟩ : ByteArray), .string (⟨#[]⟩ : ByteArray), .slice none 0 0] (0, 0) _ rfl BR.out hu26 rfl (by kernel_rfl)) rfl ?_
      exact ⟨_, rfl, Kd.R_nil _ _ _ _ _, HR.out⟩
    rw [if_neg b1] at h
    by_cases b3 : bt fd 0 > 3
    case pos =>
      rw [decide_eq_true b3] at h
      obtain ⟨kk, rfl⟩ : ∃ kk, k = kk + 1 := by
        rcases k with _ | kk
        all_goals first | exact ⟨_, rfl⟩ | (exfalso; simp [tenancyref14_Decode.j0, tenancyref14_Decode.j1, tenancyref14_Decode.j2, tenancyref14_Decode.j3, tenancyref14_Decode.j4] at h)
      rw [tenancyref14_Decode.j0, if_pos rfl] at h
      simp only [Option.some.injEq, Prod.mk.injEq] at h
      obtain ⟨rfl, rfl, rfl, rfl, rfl, rfl, rfl, rfl, rfl, rfl, rfl, rfl, rfl, rfl, rfl, rfl⟩ := h
      have hx8 : ∀ h : 0 < fd.size, ((fd[0]'h).toNat : Int) = bt fd 0 := bt_at fd 0
      have hb1 : decide (bt fd 0 < 1) = false := decide_eq_false b1
      have hb3 : decide ((3 : Int) < bt fd 0) = true := decide_eq_true b3
      clear b1 b3 s1
      go_wp2_with ((with_reducible refine gate_store (p := 2) rfl ?_); refine XBox.storeL_ rfl rfl 26 rfl gb235 rfl #[.int .u8 0, .int .u8 0, .int .u8 0, .int .u8 0, .int .u32 0, .int .u16 0, .int .u16 0, .int .u32 0, .int .u32 0, .int .u32 0, .int .u32 0, .string (⟨#[]⟩ : ByteArray), .string (⟨#[]⟩ : ByteArray), .string (⟨#[]⟩ : ByteArray), .slice none 0 0] #[.int .u8 0, .int .u8 0, .int .u8 0, .int .u8 0, .int .u32 0, .int .u16 0, .int .u16 0, .int .u32 0, .int .u32 0, .int .u32 0, .int .u32 0, .string (⟨#[]⟩ : ByteArray), .string (⟨#[]⟩ : ByteArray), .string (⟨#[]⟩ : ByteArray), .slice none 0 0] rfl HDf.out.ba hi26 (Eq.refl 15) (by simp [Value.oneCell']) ?_; intro wz hw1 hw2 hw3; have BR := Aside0.mk hw1; have HR := Aside0.mk (HDf.out.bel.trans (hw2 _ GE235.out)); clear hw1 hw2 hw3)
      refine bodyPost_ret (results_ct rfl _ _ gb235 26 #[.int .u8 0, .int .u8 0, .int .u8 0, .int .u8 0, .int .u32 0, .int .u16 0, .int .u16 0, .int .u32 0, .int .u32 0, .int .u32 0, .int .u32 0, .string (⟨#[]⟩ : ByteArray), .string (⟨#[]⟩ : ByteArray), .string (⟨#[]⟩ : ByteArray), .slice none 0 0] (0, 0) _ rfl BR.out hu26 rfl (by kernel_rfl)) rfl ?_
      exact ⟨_, rfl, Kd.R_nil _ _ _ _ _, HR.out⟩
    rw [decide_eq_false b3] at h
    obtain ⟨kk, rfl⟩ : ∃ kk, k = kk + 1 + 4 := by
      rcases k with _ | _ | _ | _ | _ | kk
      all_goals first | exact ⟨_, rfl⟩ | (exfalso; simp [tenancyref14_Decode.j0, tenancyref14_Decode.j1, tenancyref14_Decode.j2, tenancyref14_Decode.j3, tenancyref14_Decode.j4] at h; done) | (exfalso; revert h; simp [tenancyref14_Decode.j0, tenancyref14_Decode.j1, tenancyref14_Decode.j2, tenancyref14_Decode.j3, tenancyref14_Decode.j4]; repeat' split; all_goals simp)
    have LY := Aside0.mk (show y.length = 1 by rw [NY.out]; rfl)
    obtain hv | hv | hv : bt fd 0 = 1 ∨ bt fd 0 = 2 ∨ bt fd 0 = 3 := by omega
    · have hx8 : ∀ h : 0 < fd.size, ((fd[0]'h).toNat : Int) = 1 := fun h => (bt_at fd 0 h).trans hv
      clear s1
      rw [tenancyref14_Decode.j0, if_neg (by decide), if_pos rfl, if_pos (by omega), hv, tenancyref14_Decode.j1] at h
      rw [if_pos (by decide), if_pos (by have := LY.out; omega)] at h
      obtain ⟨za, hza, ha⟩ := Option.bind_eq_some_iff.1 h
      clear h
      have h := ha
      have HZa := Aside0.mk hza
      clear ha hza
      rw [tenancyref14_Decode.j2, if_pos rfl, if_pos (by omega), hv, tenancyref14_Decode.j3] at h
      go_upto_region 23 with fail
      have hcf : wf.cell? ⟨gb236, 13, none⟩ = some (.string (a0.extract 108 236)) := (blk_cell HDf.out.bb 13).trans rfl
      obtain ⟨ya, hya⟩ : ∃ z : List ByteArray, z = y ++ [(a0.extract 108 236)] := ⟨_, rfl⟩
      have NYa := Aside0.mk hya
      have LYa := Aside0.mk (show ya.length ≤ 3 by rw [hya, List.length_append]; have := LY.out; simp only [List.length_cons, List.length_nil]; omega)
      clear hya
      go_upto_region 25 with (first | ((with_reducible refine gate_builtin (b := .append) (xs := #[.tmp 111, .tmp 114]) rfl ?_); at_builtin; refine Kd.R_append Kd.string (w0 := w) w.heap.size rfl (.tmp 111) (.tmp 114) 60 9 (.string ⟨#[]⟩) 16 rfl Try.underlying60 info9 rfl (by decide) (by omega) (.slice Aa y.length ca) y (a0.extract 108 236) [.string (a0.extract 108 236)] (fun _ => True) (fun _ => False) rfl rfl ?aP (fun _ hk => hk.elim) ?aF ?aO ?aB ?aS ?aL ?_; (case aP => exact rfl); (case aB => exact HDf.out.bel); (case aF => exact (fun _ _ => trivial)); (case aO => exact HOf.out); (case aS => exact HDf.out.bel.size); (case aL => have := LY.out; omega); intro va wa ho hb hg hat; rw [← NYa.out] at ho; obtain ⟨Aa1, ca1, rfl⟩ := Kd.R_slice ho; have HOa := Aside0.mk ho; have HDa := Aside0.mk (show wire4_head.Hd w wa gb235 gb236 #[.int .u8 (bt a0 0), .int .u8 (bt a0 1), .int .u8 (bt a0 2), .int .u8 (bt a0 3), .int .u32 t4, .int .u16 (IntKind.u16.wrap ((IntKind.u16.wrap ((IntKind.u16.wrap (bt a0 8)) * 256)) + (IntKind.u16.wrap (bt a0 9)))), .int .u16 (IntKind.u16.wrap ((IntKind.u16.wrap ((IntKind.u16.wrap (bt a0 10)) * 256)) + (IntKind.u16.wrap (bt a0 11)))), .int .u32 t12, .int .u32 t16, .int .u32 t20, .int .u32 t24, .string (a0.extract 28 44), .string (a0.extract 44 108), .string (a0.extract 108 236), .slice none 0 0] from ⟨blk_grown HDf.out.ba hg (Kd.R_ne HOf.out HDf.out.ba (by decide)), blk_grown HDf.out.bb hg (Kd.R_ne HOf.out HDf.out.bb (by decide)), hb, HDf.out.ne, HDf.out.ge⟩); clear ho hb hg hat) | (go_at_call 22; refine (tenancyref14_zeros.calls 128 za _ HZa.out).mono ?_; rintro e wza ⟨rfl, hb⟩; have HDza := Aside0.mk (HDa.out.call hb); have HOza := Aside0.mk (Kd.R_below HOa.out hb); have hsa : wza.cell? ⟨gb236, 13, none⟩ = some (.string (a0.extract 108 236)) := (blk_cell HDza.out.bb 13).trans rfl; have hfsa := blk_frozen HDza.out.bb 13; clear hb))
      have HDya := Aside0.mk (HDza.out.put 13 (.string za) #[.int .u8 (bt a0 0), .int .u8 (bt a0 1), .int .u8 (bt a0 2), .int .u8 (bt a0 3), .int .u32 t4, .int .u16 (IntKind.u16.wrap ((IntKind.u16.wrap ((IntKind.u16.wrap (bt a0 8)) * 256)) + (IntKind.u16.wrap (bt a0 9)))), .int .u16 (IntKind.u16.wrap ((IntKind.u16.wrap ((IntKind.u16.wrap (bt a0 10)) * 256)) + (IntKind.u16.wrap (bt a0 11)))), .int .u32 t12, .int .u32 t16, .int .u32 t20, .int .u32 t24, .string (a0.extract 28 44), .string (a0.extract 44 108), .string za, .slice none 0 0] rfl)
      have HOya := Aside0.mk (rset26 HOza.out HDza.out.bb (by decide) 13 (.string za))
      generalize wza.setCell ⟨gb236, 13, none⟩ (.string za) = wya at HDya HOya ⊢
      clear hsa hfsa HDza HOza HDa HOa hcf
      rw [← NYa.out] at h
      rw [if_neg (by decide)] at h
      rw [tenancyref14_Decode.j4] at h
      obtain ⟨⟨pm, pq⟩, hp2, h8⟩ := Option.bind_eq_some_iff.1 h
      clear h
      dsimp only at h8
      have HP2 := Aside0.mk hp2
      have h := h8
      clear h8 hp2
      have H8 := Aside0.mk h
      clear h
      go_upto_region 29 with (go_at_call 37; refine (tenancyref13_Parse.calls kk _ _ ya pm pq _ (Kd.R_reads' HOya.out).2.2 (Kd.R_reads' HOya.out).2.1 HP2.out).mono ?_; rintro e wq ⟨vq, rfl, hor, hb⟩; obtain ⟨Aq, cq, rfl, hlc, hkc⟩ := Kd.R_reads hor; have HKq := Aside0.mk hkc; have HLq := Aside0.mk hlc; have HDq := Aside0.mk (HDya.out.call hb); clear hor hb hkc hlc)
      have h := H8.out
      by_cases c8 : pq = 0
      case neg =>
        rw [if_neg c8] at h
        simp only [Option.some.injEq, Prod.mk.injEq] at h
        obtain ⟨rfl, rfl, rfl, rfl, rfl, rfl, rfl, rfl, rfl, rfl, rfl, rfl, rfl, rfl, rfl, rfl⟩ := h
        have hc8 : (pq == 0) = false := by simpa using c8
        have hc9 : (pq != 0) = true := by simpa using c8
        clear H8 c8
        go_wp2_with ((with_reducible refine gate_store (p := 2) rfl ?_); refine XBox.storeL_ rfl rfl 26 rfl gb235 rfl #[.int .u8 0, .int .u8 0, .int .u8 0, .int .u8 0, .int .u32 0, .int .u16 0, .int .u16 0, .int .u32 0, .int .u32 0, .int .u32 0, .int .u32 0, .string (⟨#[]⟩ : ByteArray), .string (⟨#[]⟩ : ByteArray), .string (⟨#[]⟩ : ByteArray), .slice none 0 0] #[.int .u8 0, .int .u8 0, .int .u8 0, .int .u8 0, .int .u32 0, .int .u16 0, .int .u16 0, .int .u32 0, .int .u32 0, .int .u32 0, .int .u32 0, .string (⟨#[]⟩ : ByteArray), .string (⟨#[]⟩ : ByteArray), .string (⟨#[]⟩ : ByteArray), .slice none 0 0] rfl HDq.out.ba hi26 (Eq.refl 15) (by simp [Value.oneCell']) ?_; intro wz hw1 hw2 hw3; have BR := Aside0.mk hw1; have HR := Aside0.mk (HDq.out.bel.trans (hw2 _ GE235.out)); clear hw1 hw2 hw3)
        refine bodyPost_ret (results_ct rfl _ _ gb235 26 #[.int .u8 0, .int .u8 0, .int .u8 0, .int .u8 0, .int .u32 0, .int .u16 0, .int .u16 0, .int .u32 0, .int .u32 0, .int .u32 0, .int .u32 0, .string (⟨#[]⟩ : ByteArray), .string (⟨#[]⟩ : ByteArray), .string (⟨#[]⟩ : ByteArray), .slice none 0 0] (0, 0) _ rfl BR.out hu26 rfl (by kernel_rfl)) rfl ?_
        exact ⟨_, rfl, Kd.R_nil _ _ _ _ _, HR.out⟩
      subst c8
      rw [if_pos rfl] at h
      obtain ⟨wt, hwt, h9⟩ := Option.bind_eq_some_iff.1 h
      clear h H8
      have h := h9
      clear h9
      simp only [Option.some.injEq, Prod.mk.injEq] at h
      obtain ⟨rfl, rfl, rfl, rfl, rfl, rfl, rfl, rfl, rfl, rfl, rfl, rfl, rfl, rfl, rfl, rfl⟩ := h
      have HWT := Aside0.mk hwt
      clear hwt
      go_upto_region 32 with (go_at_call 38; refine (tenancyref13_Without.calls kk Aq cq pm 52 wt _ HKq.out HLq.out HWT.out).mono ?_; rintro e wr ⟨vw, rfl, hor, hb⟩; obtain ⟨Aw, cw, rfl⟩ := Kd.R_slice hor; have HOw := Aside0.mk hor; have HDr := Aside0.mk (HDq.out.call hb); have hcg : wr.cell? ⟨gb236, 14, none⟩ = some (.slice none 0 0) := (blk_cell HDr.out.bb 14).trans rfl; have hfg := blk_frozen HDr.out.bb 14; clear hor hb)
      have HLTg := Aside0.mk (blk_lt HDq.out.bb)
      have HLTa := Aside0.mk (blk_lt HDq.out.ba)
      have HSz := Aside0.mk HDq.out.bel.size
      have HDs := Aside0.mk (HDr.out.put 14 (.slice Aw wt.length cw) #[.int .u8 (bt a0 0), .int .u8 (bt a0 1), .int .u8 (bt a0 2), .int .u8 (bt a0 3), .int .u32 t4, .int .u16 (IntKind.u16.wrap ((IntKind.u16.wrap ((IntKind.u16.wrap (bt a0 8)) * 256)) + (IntKind.u16.wrap (bt a0 9)))), .int .u16 (IntKind.u16.wrap ((IntKind.u16.wrap ((IntKind.u16.wrap (bt a0 10)) * 256)) + (IntKind.u16.wrap (bt a0 11)))), .int .u32 t12, .int .u32 t16, .int .u32 t20, .int .u32 t24, .string (a0.extract 28 44), .string (a0.extract 44 108), .string za, .slice Aw wt.length cw] rfl)
      have HOh := Aside0.mk (show Kd.R k47 47 (wr.setCell ⟨gb236, 14, none⟩ (.slice Aw wt.length cw)) wq.heap.size (fun k => True ∧ wq.heap.size ≤ k) (.slice Aw wt.length cw) wt from Kd.R_far (Kd.R_mono (Kd.R_bound HOw.out) (fun k hk => ⟨trivial, hk.2.1⟩)) (fun k hk => Nat.ne_of_gt (Nat.lt_of_lt_of_le HLTg.out hk.2)) _)
      generalize wr.setCell ⟨gb236, 14, none⟩ (.slice Aw wt.length cw) = wh at HDs HOh ⊢
      clear hcg hfg HDr HDq
      go_wp2_with (first | ((with_reducible refine gate_dst (N := 143) rfl ?_); refine XBox.loadL_ 143 rfl rfl 26 rfl gb236 rfl #[.int .u8 (bt a0 0), .int .u8 (bt a0 1), .int .u8 (bt a0 2), .int .u8 (bt a0 3), .int .u32 t4, .int .u16 (IntKind.u16.wrap ((IntKind.u16.wrap ((IntKind.u16.wrap (bt a0 8)) * 256)) + (IntKind.u16.wrap (bt a0 9)))), .int .u16 (IntKind.u16.wrap ((IntKind.u16.wrap ((IntKind.u16.wrap (bt a0 10)) * 256)) + (IntKind.u16.wrap (bt a0 11)))), .int .u32 t12, .int .u32 t16, .int .u32 t20, .int .u32 t24, .string (a0.extract 28 44), .string (a0.extract 44 108), .string za, .slice Aw wt.length cw] HDs.out.bb hu26 rfl hi26 ?_; simp only [Act.put, List.setIfInBounds_toArray, List.set_cons_zero, List.set_cons_succ]) | ((with_reducible refine gate_store (p := 2) rfl ?_); refine XBox.storeL_ rfl rfl 26 rfl gb235 rfl #[.int .u8 0, .int .u8 0, .int .u8 0, .int .u8 0, .int .u32 0, .int .u16 0, .int .u16 0, .int .u32 0, .int .u32 0, .int .u32 0, .int .u32 0, .string (⟨#[]⟩ : ByteArray), .string (⟨#[]⟩ : ByteArray), .string (⟨#[]⟩ : ByteArray), .slice none 0 0] #[.int .u8 (bt a0 0), .int .u8 (bt a0 1), .int .u8 (bt a0 2), .int .u8 (bt a0 3), .int .u32 t4, .int .u16 (IntKind.u16.wrap ((IntKind.u16.wrap ((IntKind.u16.wrap (bt a0 8)) * 256)) + (IntKind.u16.wrap (bt a0 9)))), .int .u16 (IntKind.u16.wrap ((IntKind.u16.wrap ((IntKind.u16.wrap (bt a0 10)) * 256)) + (IntKind.u16.wrap (bt a0 11)))), .int .u32 t12, .int .u32 t16, .int .u32 t20, .int .u32 t24, .string (a0.extract 28 44), .string (a0.extract 44 108), .string za, .slice Aw wt.length cw] rfl HDs.out.ba hi26 (Eq.refl 15) (by simp [Value.oneCell']) ?_; intro wi hw1 hw2 hw3; have BR := Aside0.mk hw1; have HR := Aside0.mk (HDs.out.bel.trans (hw2 _ GE235.out)); have HOr := Aside0.mk (Kd.R_lower (Kd.R_mono (Kd.R_step HOh.out (fun k hk _ => hw3 k (Nat.ne_of_gt (Nat.lt_of_lt_of_le HLTa.out hk.2)))) (fun _ _ => trivial)) HSz.out); clear hw1 hw2 hw3))
      refine bodyPost_ret (results_ct rfl _ _ gb235 26 #[.int .u8 (bt a0 0), .int .u8 (bt a0 1), .int .u8 (bt a0 2), .int .u8 (bt a0 3), .int .u32 t4, .int .u16 (IntKind.u16.wrap ((IntKind.u16.wrap ((IntKind.u16.wrap (bt a0 8)) * 256)) + (IntKind.u16.wrap (bt a0 9)))), .int .u16 (IntKind.u16.wrap ((IntKind.u16.wrap ((IntKind.u16.wrap (bt a0 10)) * 256)) + (IntKind.u16.wrap (bt a0 11)))), .int .u32 t12, .int .u32 t16, .int .u32 t20, .int .u32 t24, .string (a0.extract 28 44), .string (a0.extract 44 108), .string za, .slice Aw wt.length cw] (0, 0) _ rfl BR.out hu26 rfl (by kernel_rfl)) rfl ?_
      exact ⟨_, rfl, HOr.out, HR.out⟩
    · have hx8 : ∀ h : 0 < fd.size, ((fd[0]'h).toNat : Int) = 2 := fun h => (bt_at fd 0 h).trans hv
      clear s1
      rw [tenancyref14_Decode.j0, if_neg (by decide), if_pos rfl, if_pos (by omega), hv, tenancyref14_Decode.j1] at h
      rw [if_neg (by decide), tenancyref14_Decode.j2, if_pos rfl, if_pos (by omega), hv, tenancyref14_Decode.j3] at h
      rw [if_pos (by decide), if_pos (by first | (have := LYa.out; omega) | (have := LY.out; omega))] at h
      obtain ⟨zb, hzb, hb0⟩ := Option.bind_eq_some_iff.1 h
      clear h
      have h := hb0
      have HZb := Aside0.mk hzb
      clear hb0 hzb
      go_upto_region 26 with fail
      have hcf : wf.cell? ⟨gb236, 12, none⟩ = some (.string (a0.extract 44 108)) := (blk_cell HDf.out.bb 12).trans rfl
      obtain ⟨yb, hyb⟩ : ∃ z : List ByteArray, z = y ++ [(a0.extract 44 108)] := ⟨_, rfl⟩
      have NYb := Aside0.mk hyb
      have LYb := Aside0.mk (show yb.length ≤ 3 by rw [hyb, List.length_append]; have := LY.out; simp only [List.length_cons, List.length_nil]; omega)
      clear hyb
      go_upto_region 28 with (first | ((with_reducible refine gate_builtin (b := .append) (xs := #[.tmp 124, .tmp 127]) rfl ?_); at_builtin; refine Kd.R_append Kd.string (w0 := w) w.heap.size rfl (.tmp 124) (.tmp 127) 60 9 (.string ⟨#[]⟩) 16 rfl Try.underlying60 info9 rfl (by decide) (by omega) (.slice Aa y.length ca) y (a0.extract 44 108) [.string (a0.extract 44 108)] (fun _ => True) (fun _ => False) rfl rfl ?aP (fun _ hk => hk.elim) ?aF ?aO ?aB ?aS ?aL ?_; (case aP => exact rfl); (case aB => exact HDf.out.bel); (case aF => exact (fun _ _ => trivial)); (case aO => exact HOf.out); (case aS => exact HDf.out.bel.size); (case aL => have := LY.out; omega); intro vb wb ho hb hg hat; rw [← NYb.out] at ho; obtain ⟨Ab1, cb1, rfl⟩ := Kd.R_slice ho; have HOb := Aside0.mk ho; have HDb := Aside0.mk (show wire4_head.Hd w wb gb235 gb236 #[.int .u8 (bt a0 0), .int .u8 (bt a0 1), .int .u8 (bt a0 2), .int .u8 (bt a0 3), .int .u32 t4, .int .u16 (IntKind.u16.wrap ((IntKind.u16.wrap ((IntKind.u16.wrap (bt a0 8)) * 256)) + (IntKind.u16.wrap (bt a0 9)))), .int .u16 (IntKind.u16.wrap ((IntKind.u16.wrap ((IntKind.u16.wrap (bt a0 10)) * 256)) + (IntKind.u16.wrap (bt a0 11)))), .int .u32 t12, .int .u32 t16, .int .u32 t20, .int .u32 t24, .string (a0.extract 28 44), .string (a0.extract 44 108), .string (a0.extract 108 236), .slice none 0 0] from ⟨blk_grown HDf.out.ba hg (Kd.R_ne HOf.out HDf.out.ba (by decide)), blk_grown HDf.out.bb hg (Kd.R_ne HOf.out HDf.out.bb (by decide)), hb, HDf.out.ne, HDf.out.ge⟩); clear ho hb hg hat) | (go_at_call 22; refine (tenancyref14_zeros.calls 64 zb _ HZb.out).mono ?_; rintro e wzb ⟨rfl, hb⟩; have HDzb := Aside0.mk (HDb.out.call hb); have HOzb := Aside0.mk (Kd.R_below HOb.out hb); have hsb : wzb.cell? ⟨gb236, 12, none⟩ = some (.string (a0.extract 44 108)) := (blk_cell HDzb.out.bb 12).trans rfl; have hfsb := blk_frozen HDzb.out.bb 12; clear hb))
      have HDyb := Aside0.mk (HDzb.out.put 12 (.string zb) #[.int .u8 (bt a0 0), .int .u8 (bt a0 1), .int .u8 (bt a0 2), .int .u8 (bt a0 3), .int .u32 t4, .int .u16 (IntKind.u16.wrap ((IntKind.u16.wrap ((IntKind.u16.wrap (bt a0 8)) * 256)) + (IntKind.u16.wrap (bt a0 9)))), .int .u16 (IntKind.u16.wrap ((IntKind.u16.wrap ((IntKind.u16.wrap (bt a0 10)) * 256)) + (IntKind.u16.wrap (bt a0 11)))), .int .u32 t12, .int .u32 t16, .int .u32 t20, .int .u32 t24, .string (a0.extract 28 44), .string zb, .string (a0.extract 108 236), .slice none 0 0] rfl)
      have HOyb := Aside0.mk (rset26 HOzb.out HDzb.out.bb (by decide) 12 (.string zb))
      generalize wzb.setCell ⟨gb236, 12, none⟩ (.string zb) = wyb at HDyb HOyb ⊢
      clear hsb hfsb HDzb HOzb HDb HOb hcf
      rw [← NYb.out] at h
      rw [tenancyref14_Decode.j4] at h
      obtain ⟨⟨pm, pq⟩, hp2, h8⟩ := Option.bind_eq_some_iff.1 h
      clear h
      dsimp only at h8
      have HP2 := Aside0.mk hp2
      have h := h8
      clear h8 hp2
      have H8 := Aside0.mk h
      clear h
      go_upto_region 29 with (go_at_call 37; refine (tenancyref13_Parse.calls kk _ _ yb pm pq _ (Kd.R_reads' HOyb.out).2.2 (Kd.R_reads' HOyb.out).2.1 HP2.out).mono ?_; rintro e wq ⟨vq, rfl, hor, hb⟩; obtain ⟨Aq, cq, rfl, hlc, hkc⟩ := Kd.R_reads hor; have HKq := Aside0.mk hkc; have HLq := Aside0.mk hlc; have HDq := Aside0.mk (HDyb.out.call hb); clear hor hb hkc hlc)
      have h := H8.out
      by_cases c8 : pq = 0
      case neg =>
        rw [if_neg c8] at h
        simp only [Option.some.injEq, Prod.mk.injEq] at h
        obtain ⟨rfl, rfl, rfl, rfl, rfl, rfl, rfl, rfl, rfl, rfl, rfl, rfl, rfl, rfl, rfl, rfl⟩ := h
        have hc8 : (pq == 0) = false := by simpa using c8
        have hc9 : (pq != 0) = true := by simpa using c8
        clear H8 c8
        go_wp2_with ((with_reducible refine gate_store (p := 2) rfl ?_); refine XBox.storeL_ rfl rfl 26 rfl gb235 rfl #[.int .u8 0, .int .u8 0, .int .u8 0, .int .u8 0, .int .u32 0, .int .u16 0, .int .u16 0, .int .u32 0, .int .u32 0, .int .u32 0, .int .u32 0, .string (⟨#[]⟩ : ByteArray), .string (⟨#[]⟩ : ByteArray), .string (⟨#[]⟩ : ByteArray), .slice none 0 0] #[.int .u8 0, .int .u8 0, .int .u8 0, .int .u8 0, .int .u32 0, .int .u16 0, .int .u16 0, .int .u32 0, .int .u32 0, .int .u32 0, .int .u32 0, .string (⟨#[]⟩ : ByteArray), .string (⟨#[]⟩ : ByteArray), .string (⟨#[]⟩ : ByteArray), .slice none 0 0] rfl HDq.out.ba hi26 (Eq.refl 15) (by simp [Value.oneCell']) ?_; intro wz hw1 hw2 hw3; have BR := Aside0.mk hw1; have HR := Aside0.mk (HDq.out.bel.trans (hw2 _ GE235.out)); clear hw1 hw2 hw3)
        refine bodyPost_ret (results_ct rfl _ _ gb235 26 #[.int .u8 0, .int .u8 0, .int .u8 0, .int .u8 0, .int .u32 0, .int .u16 0, .int .u16 0, .int .u32 0, .int .u32 0, .int .u32 0, .int .u32 0, .string (⟨#[]⟩ : ByteArray), .string (⟨#[]⟩ : ByteArray), .string (⟨#[]⟩ : ByteArray), .slice none 0 0] (0, 0) _ rfl BR.out hu26 rfl (by kernel_rfl)) rfl ?_
        exact ⟨_, rfl, Kd.R_nil _ _ _ _ _, HR.out⟩
      subst c8
      rw [if_pos rfl] at h
      obtain ⟨wt, hwt, h9⟩ := Option.bind_eq_some_iff.1 h
      clear h H8
      have h := h9
      clear h9
      simp only [Option.some.injEq, Prod.mk.injEq] at h
      obtain ⟨rfl, rfl, rfl, rfl, rfl, rfl, rfl, rfl, rfl, rfl, rfl, rfl, rfl, rfl, rfl, rfl⟩ := h
      have HWT := Aside0.mk hwt
      clear hwt
      go_upto_region 32 with (go_at_call 38; refine (tenancyref13_Without.calls kk Aq cq pm 52 wt _ HKq.out HLq.out HWT.out).mono ?_; rintro e wr ⟨vw, rfl, hor, hb⟩; obtain ⟨Aw, cw, rfl⟩ := Kd.R_slice hor; have HOw := Aside0.mk hor; have HDr := Aside0.mk (HDq.out.call hb); have hcg : wr.cell? ⟨gb236, 14, none⟩ = some (.slice none 0 0) := (blk_cell HDr.out.bb 14).trans rfl; have hfg := blk_frozen HDr.out.bb 14; clear hor hb)
      have HLTg := Aside0.mk (blk_lt HDq.out.bb)
      have HLTa := Aside0.mk (blk_lt HDq.out.ba)
      have HSz := Aside0.mk HDq.out.bel.size
      have HDs := Aside0.mk (HDr.out.put 14 (.slice Aw wt.length cw) #[.int .u8 (bt a0 0), .int .u8 (bt a0 1), .int .u8 (bt a0 2), .int .u8 (bt a0 3), .int .u32 t4, .int .u16 (IntKind.u16.wrap ((IntKind.u16.wrap ((IntKind.u16.wrap (bt a0 8)) * 256)) + (IntKind.u16.wrap (bt a0 9)))), .int .u16 (IntKind.u16.wrap ((IntKind.u16.wrap ((IntKind.u16.wrap (bt a0 10)) * 256)) + (IntKind.u16.wrap (bt a0 11)))), .int .u32 t12, .int .u32 t16, .int .u32 t20, .int .u32 t24, .string (a0.extract 28 44), .string zb, .string (a0.extract 108 236), .slice Aw wt.length cw] rfl)
      have HOh := Aside0.mk (show Kd.R k47 47 (wr.setCell ⟨gb236, 14, none⟩ (.slice Aw wt.length cw)) wq.heap.size (fun k => True ∧ wq.heap.size ≤ k) (.slice Aw wt.length cw) wt from Kd.R_far (Kd.R_mono (Kd.R_bound HOw.out) (fun k hk => ⟨trivial, hk.2.1⟩)) (fun k hk => Nat.ne_of_gt (Nat.lt_of_lt_of_le HLTg.out hk.2)) _)
      generalize wr.setCell ⟨gb236, 14, none⟩ (.slice Aw wt.length cw) = wh at HDs HOh ⊢
      clear hcg hfg HDr HDq
      go_wp2_with (first | ((with_reducible refine gate_dst (N := 143) rfl ?_); refine XBox.loadL_ 143 rfl rfl 26 rfl gb236 rfl #[.int .u8 (bt a0 0), .int .u8 (bt a0 1), .int .u8 (bt a0 2), .int .u8 (bt a0 3), .int .u32 t4, .int .u16 (IntKind.u16.wrap ((IntKind.u16.wrap ((IntKind.u16.wrap (bt a0 8)) * 256)) + (IntKind.u16.wrap (bt a0 9)))), .int .u16 (IntKind.u16.wrap ((IntKind.u16.wrap ((IntKind.u16.wrap (bt a0 10)) * 256)) + (IntKind.u16.wrap (bt a0 11)))), .int .u32 t12, .int .u32 t16, .int .u32 t20, .int .u32 t24, .string (a0.extract 28 44), .string zb, .string (a0.extract 108 236), .slice Aw wt.length cw] HDs.out.bb hu26 rfl hi26 ?_; simp only [Act.put, List.setIfInBounds_toArray, List.set_cons_zero, List.set_cons_succ]) | ((with_reducible refine gate_store (p := 2) rfl ?_); refine XBox.storeL_ rfl rfl 26 rfl gb235 rfl #[.int .u8 0, .int .u8 0, .int .u8 0, .int .u8 0, .int .u32 0, .int .u16 0, .int .u16 0, .int .u32 0, .int .u32 0, .int .u32 0, .int .u32 0, .string (⟨#[]⟩ : ByteArray), .string (⟨#[]⟩ : ByteArray), .string (⟨#[]⟩ : ByteArray), .slice none 0 0] #[.int .u8 (bt a0 0), .int .u8 (bt a0 1), .int .u8 (bt a0 2), .int .u8 (bt a0 3), .int .u32 t4, .int .u16 (IntKind.u16.wrap ((IntKind.u16.wrap ((IntKind.u16.wrap (bt a0 8)) * 256)) + (IntKind.u16.wrap (bt a0 9)))), .int .u16 (IntKind.u16.wrap ((IntKind.u16.wrap ((IntKind.u16.wrap (bt a0 10)) * 256)) + (IntKind.u16.wrap (bt a0 11)))), .int .u32 t12, .int .u32 t16, .int .u32 t20, .int .u32 t24, .string (a0.extract 28 44), .string zb, .string (a0.extract 108 236), .slice Aw wt.length cw] rfl HDs.out.ba hi26 (Eq.refl 15) (by simp [Value.oneCell']) ?_; intro wi hw1 hw2 hw3; have BR := Aside0.mk hw1; have HR := Aside0.mk (HDs.out.bel.trans (hw2 _ GE235.out)); have HOr := Aside0.mk (Kd.R_lower (Kd.R_mono (Kd.R_step HOh.out (fun k hk _ => hw3 k (Nat.ne_of_gt (Nat.lt_of_lt_of_le HLTa.out hk.2)))) (fun _ _ => trivial)) HSz.out); clear hw1 hw2 hw3))
      refine bodyPost_ret (results_ct rfl _ _ gb235 26 #[.int .u8 (bt a0 0), .int .u8 (bt a0 1), .int .u8 (bt a0 2), .int .u8 (bt a0 3), .int .u32 t4, .int .u16 (IntKind.u16.wrap ((IntKind.u16.wrap ((IntKind.u16.wrap (bt a0 8)) * 256)) + (IntKind.u16.wrap (bt a0 9)))), .int .u16 (IntKind.u16.wrap ((IntKind.u16.wrap ((IntKind.u16.wrap (bt a0 10)) * 256)) + (IntKind.u16.wrap (bt a0 11)))), .int .u32 t12, .int .u32 t16, .int .u32 t20, .int .u32 t24, .string (a0.extract 28 44), .string zb, .string (a0.extract 108 236), .slice Aw wt.length cw] (0, 0) _ rfl BR.out hu26 rfl (by kernel_rfl)) rfl ?_
      exact ⟨_, rfl, HOr.out, HR.out⟩
    · have hx8 : ∀ h : 0 < fd.size, ((fd[0]'h).toNat : Int) = 3 := fun h => (bt_at fd 0 h).trans hv
      clear s1
      rw [tenancyref14_Decode.j0, if_neg (by decide), if_pos rfl, if_pos (by omega), hv, tenancyref14_Decode.j1] at h
      rw [if_pos (by decide), if_pos (by have := LY.out; omega)] at h
      obtain ⟨za, hza, ha⟩ := Option.bind_eq_some_iff.1 h
      clear h
      have h := ha
      have HZa := Aside0.mk hza
      clear ha hza
      rw [tenancyref14_Decode.j2, if_pos rfl, if_pos (by omega), hv, tenancyref14_Decode.j3] at h
      go_upto_region 23 with fail
      have hcf : wf.cell? ⟨gb236, 13, none⟩ = some (.string (a0.extract 108 236)) := (blk_cell HDf.out.bb 13).trans rfl
      obtain ⟨ya, hya⟩ : ∃ z : List ByteArray, z = y ++ [(a0.extract 108 236)] := ⟨_, rfl⟩
      have NYa := Aside0.mk hya
      have LYa := Aside0.mk (show ya.length ≤ 3 by rw [hya, List.length_append]; have := LY.out; simp only [List.length_cons, List.length_nil]; omega)
      clear hya
      go_upto_region 25 with (first | ((with_reducible refine gate_builtin (b := .append) (xs := #[.tmp 111, .tmp 114]) rfl ?_); at_builtin; refine Kd.R_append Kd.string (w0 := w) w.heap.size rfl (.tmp 111) (.tmp 114) 60 9 (.string ⟨#[]⟩) 16 rfl Try.underlying60 info9 rfl (by decide) (by omega) (.slice Aa y.length ca) y (a0.extract 108 236) [.string (a0.extract 108 236)] (fun _ => True) (fun _ => False) rfl rfl ?aP (fun _ hk => hk.elim) ?aF ?aO ?aB ?aS ?aL ?_; (case aP => exact rfl); (case aB => exact HDf.out.bel); (case aF => exact (fun _ _ => trivial)); (case aO => exact HOf.out); (case aS => exact HDf.out.bel.size); (case aL => have := LY.out; omega); intro va wa ho hb hg hat; rw [← NYa.out] at ho; obtain ⟨Aa1, ca1, rfl⟩ := Kd.R_slice ho; have HOa := Aside0.mk ho; have HDa := Aside0.mk (show wire4_head.Hd w wa gb235 gb236 #[.int .u8 (bt a0 0), .int .u8 (bt a0 1), .int .u8 (bt a0 2), .int .u8 (bt a0 3), .int .u32 t4, .int .u16 (IntKind.u16.wrap ((IntKind.u16.wrap ((IntKind.u16.wrap (bt a0 8)) * 256)) + (IntKind.u16.wrap (bt a0 9)))), .int .u16 (IntKind.u16.wrap ((IntKind.u16.wrap ((IntKind.u16.wrap (bt a0 10)) * 256)) + (IntKind.u16.wrap (bt a0 11)))), .int .u32 t12, .int .u32 t16, .int .u32 t20, .int .u32 t24, .string (a0.extract 28 44), .string (a0.extract 44 108), .string (a0.extract 108 236), .slice none 0 0] from ⟨blk_grown HDf.out.ba hg (Kd.R_ne HOf.out HDf.out.ba (by decide)), blk_grown HDf.out.bb hg (Kd.R_ne HOf.out HDf.out.bb (by decide)), hb, HDf.out.ne, HDf.out.ge⟩); clear ho hb hg hat) | (go_at_call 22; refine (tenancyref14_zeros.calls 128 za _ HZa.out).mono ?_; rintro e wza ⟨rfl, hb⟩; have HDza := Aside0.mk (HDa.out.call hb); have HOza := Aside0.mk (Kd.R_below HOa.out hb); have hsa : wza.cell? ⟨gb236, 13, none⟩ = some (.string (a0.extract 108 236)) := (blk_cell HDza.out.bb 13).trans rfl; have hfsa := blk_frozen HDza.out.bb 13; clear hb))
      have HDya := Aside0.mk (HDza.out.put 13 (.string za) #[.int .u8 (bt a0 0), .int .u8 (bt a0 1), .int .u8 (bt a0 2), .int .u8 (bt a0 3), .int .u32 t4, .int .u16 (IntKind.u16.wrap ((IntKind.u16.wrap ((IntKind.u16.wrap (bt a0 8)) * 256)) + (IntKind.u16.wrap (bt a0 9)))), .int .u16 (IntKind.u16.wrap ((IntKind.u16.wrap ((IntKind.u16.wrap (bt a0 10)) * 256)) + (IntKind.u16.wrap (bt a0 11)))), .int .u32 t12, .int .u32 t16, .int .u32 t20, .int .u32 t24, .string (a0.extract 28 44), .string (a0.extract 44 108), .string za, .slice none 0 0] rfl)
      have HOya := Aside0.mk (rset26 HOza.out HDza.out.bb (by decide) 13 (.string za))
      generalize wza.setCell ⟨gb236, 13, none⟩ (.string za) = wya at HDya HOya ⊢
      clear hsa hfsa HDza HOza HDa HOa hcf
      rw [← NYa.out] at h
      rw [if_pos (by decide), if_pos (by first | (have := LYa.out; omega) | (have := LY.out; omega))] at h
      obtain ⟨zb, hzb, hb0⟩ := Option.bind_eq_some_iff.1 h
      clear h
      have h := hb0
      have HZb := Aside0.mk hzb
      clear hb0 hzb
      go_upto_region 26 with fail
      have hcf : wya.cell? ⟨gb236, 12, none⟩ = some (.string (a0.extract 44 108)) := (blk_cell HDya.out.bb 12).trans rfl
      obtain ⟨yb, hyb⟩ : ∃ z : List ByteArray, z = ya ++ [(a0.extract 44 108)] := ⟨_, rfl⟩
      have NYb := Aside0.mk hyb
      have LYb := Aside0.mk (show True from trivial)
      clear hyb
      go_upto_region 28 with (first | ((with_reducible refine gate_builtin (b := .append) (xs := #[.tmp 124, .tmp 127]) rfl ?_); at_builtin; refine Kd.R_append Kd.string (w0 := w) w.heap.size rfl (.tmp 124) (.tmp 127) 60 9 (.string ⟨#[]⟩) 16 rfl Try.underlying60 info9 rfl (by decide) (by omega) (.slice Aa1 ya.length ca1) ya (a0.extract 44 108) [.string (a0.extract 44 108)] (fun _ => True) (fun _ => False) rfl rfl ?aP (fun _ hk => hk.elim) ?aF ?aO ?aB ?aS ?aL ?_; (case aP => exact rfl); (case aB => exact HDya.out.bel); (case aF => exact (fun _ _ => trivial)); (case aO => exact HOya.out); (case aS => exact HDya.out.bel.size); (case aL => have := LYa.out; omega); intro vb wb ho hb hg hat; rw [← NYb.out] at ho; obtain ⟨Ab1, cb1, rfl⟩ := Kd.R_slice ho; have HOb := Aside0.mk ho; have HDb := Aside0.mk (show wire4_head.Hd w wb gb235 gb236 #[.int .u8 (bt a0 0), .int .u8 (bt a0 1), .int .u8 (bt a0 2), .int .u8 (bt a0 3), .int .u32 t4, .int .u16 (IntKind.u16.wrap ((IntKind.u16.wrap ((IntKind.u16.wrap (bt a0 8)) * 256)) + (IntKind.u16.wrap (bt a0 9)))), .int .u16 (IntKind.u16.wrap ((IntKind.u16.wrap ((IntKind.u16.wrap (bt a0 10)) * 256)) + (IntKind.u16.wrap (bt a0 11)))), .int .u32 t12, .int .u32 t16, .int .u32 t20, .int .u32 t24, .string (a0.extract 28 44), .string (a0.extract 44 108), .string za, .slice none 0 0] from ⟨blk_grown HDya.out.ba hg (Kd.R_ne HOya.out HDya.out.ba (by decide)), blk_grown HDya.out.bb hg (Kd.R_ne HOya.out HDya.out.bb (by decide)), hb, HDya.out.ne, HDya.out.ge⟩); clear ho hb hg hat) | (go_at_call 22; refine (tenancyref14_zeros.calls 64 zb _ HZb.out).mono ?_; rintro e wzb ⟨rfl, hb⟩; have HDzb := Aside0.mk (HDb.out.call hb); have HOzb := Aside0.mk (Kd.R_below HOb.out hb); have hsb : wzb.cell? ⟨gb236, 12, none⟩ = some (.string (a0.extract 44 108)) := (blk_cell HDzb.out.bb 12).trans rfl; have hfsb := blk_frozen HDzb.out.bb 12; clear hb))
      have HDyb := Aside0.mk (HDzb.out.put 12 (.string zb) #[.int .u8 (bt a0 0), .int .u8 (bt a0 1), .int .u8 (bt a0 2), .int .u8 (bt a0 3), .int .u32 t4, .int .u16 (IntKind.u16.wrap ((IntKind.u16.wrap ((IntKind.u16.wrap (bt a0 8)) * 256)) + (IntKind.u16.wrap (bt a0 9)))), .int .u16 (IntKind.u16.wrap ((IntKind.u16.wrap ((IntKind.u16.wrap (bt a0 10)) * 256)) + (IntKind.u16.wrap (bt a0 11)))), .int .u32 t12, .int .u32 t16, .int .u32 t20, .int .u32 t24, .string (a0.extract 28 44), .string zb, .string za, .slice none 0 0] rfl)
      have HOyb := Aside0.mk (rset26 HOzb.out HDzb.out.bb (by decide) 12 (.string zb))
      generalize wzb.setCell ⟨gb236, 12, none⟩ (.string zb) = wyb at HDyb HOyb ⊢
      clear hsb hfsb HDzb HOzb HDb HOb hcf
      rw [← NYb.out] at h
      rw [tenancyref14_Decode.j4] at h
      obtain ⟨⟨pm, pq⟩, hp2, h8⟩ := Option.bind_eq_some_iff.1 h
      clear h
      dsimp only at h8
      have HP2 := Aside0.mk hp2
      have h := h8
      clear h8 hp2
      have H8 := Aside0.mk h
      clear h
      go_upto_region 29 with (go_at_call 37; refine (tenancyref13_Parse.calls kk _ _ yb pm pq _ (Kd.R_reads' HOyb.out).2.2 (Kd.R_reads' HOyb.out).2.1 HP2.out).mono ?_; rintro e wq ⟨vq, rfl, hor, hb⟩; obtain ⟨Aq, cq, rfl, hlc, hkc⟩ := Kd.R_reads hor; have HKq := Aside0.mk hkc; have HLq := Aside0.mk hlc; have HDq := Aside0.mk (HDyb.out.call hb); clear hor hb hkc hlc)
      have h := H8.out
      by_cases c8 : pq = 0
      case neg =>
        rw [if_neg c8] at h
        simp only [Option.some.injEq, Prod.mk.injEq] at h
        obtain ⟨rfl, rfl, rfl, rfl, rfl, rfl, rfl, rfl, rfl, rfl, rfl, rfl, rfl, rfl, rfl, rfl⟩ := h
        have hc8 : (pq == 0) = false := by simpa using c8
        have hc9 : (pq != 0) = true := by simpa using c8
        clear H8 c8
        go_wp2_with ((with_reducible refine gate_store (p := 2) rfl ?_); refine XBox.storeL_ rfl rfl 26 rfl gb235 rfl #[.int .u8 0, .int .u8 0, .int .u8 0, .int .u8 0, .int .u32 0, .int .u16 0, .int .u16 0, .int .u32 0, .int .u32 0, .int .u32 0, .int .u32 0, .string (⟨#[]⟩ : ByteArray), .string (⟨#[]⟩ : ByteArray), .string (⟨#[]⟩ : ByteArray), .slice none 0 0] #[.int .u8 0, .int .u8 0, .int .u8 0, .int .u8 0, .int .u32 0, .int .u16 0, .int .u16 0, .int .u32 0, .int .u32 0, .int .u32 0, .int .u32 0, .string (⟨#[]⟩ : ByteArray), .string (⟨#[]⟩ : ByteArray), .string (⟨#[]⟩ : ByteArray), .slice none 0 0] rfl HDq.out.ba hi26 (Eq.refl 15) (by simp [Value.oneCell']) ?_; intro wz hw1 hw2 hw3; have BR := Aside0.mk hw1; have HR := Aside0.mk (HDq.out.bel.trans (hw2 _ GE235.out)); clear hw1 hw2 hw3)
        refine bodyPost_ret (results_ct rfl _ _ gb235 26 #[.int .u8 0, .int .u8 0, .int .u8 0, .int .u8 0, .int .u32 0, .int .u16 0, .int .u16 0, .int .u32 0, .int .u32 0, .int .u32 0, .int .u32 0, .string (⟨#[]⟩ : ByteArray), .string (⟨#[]⟩ : ByteArray), .string (⟨#[]⟩ : ByteArray), .slice none 0 0] (0, 0) _ rfl BR.out hu26 rfl (by kernel_rfl)) rfl ?_
        exact ⟨_, rfl, Kd.R_nil _ _ _ _ _, HR.out⟩
      subst c8
      rw [if_pos rfl] at h
      obtain ⟨wt, hwt, h9⟩ := Option.bind_eq_some_iff.1 h
      clear h H8
      have h := h9
      clear h9
      simp only [Option.some.injEq, Prod.mk.injEq] at h
      obtain ⟨rfl, rfl, rfl, rfl, rfl, rfl, rfl, rfl, rfl, rfl, rfl, rfl, rfl, rfl, rfl, rfl⟩ := h
      have HWT := Aside0.mk hwt
      clear hwt
      go_upto_region 32 with (go_at_call 38; refine (tenancyref13_Without.calls kk Aq cq pm 52 wt _ HKq.out HLq.out HWT.out).mono ?_; rintro e wr ⟨vw, rfl, hor, hb⟩; obtain ⟨Aw, cw, rfl⟩ := Kd.R_slice hor; have HOw := Aside0.mk hor; have HDr := Aside0.mk (HDq.out.call hb); have hcg : wr.cell? ⟨gb236, 14, none⟩ = some (.slice none 0 0) := (blk_cell HDr.out.bb 14).trans rfl; have hfg := blk_frozen HDr.out.bb 14; clear hor hb)
      have HLTg := Aside0.mk (blk_lt HDq.out.bb)
      have HLTa := Aside0.mk (blk_lt HDq.out.ba)
      have HSz := Aside0.mk HDq.out.bel.size
      have HDs := Aside0.mk (HDr.out.put 14 (.slice Aw wt.length cw) #[.int .u8 (bt a0 0), .int .u8 (bt a0 1), .int .u8 (bt a0 2), .int .u8 (bt a0 3), .int .u32 t4, .int .u16 (IntKind.u16.wrap ((IntKind.u16.wrap ((IntKind.u16.wrap (bt a0 8)) * 256)) + (IntKind.u16.wrap (bt a0 9)))), .int .u16 (IntKind.u16.wrap ((IntKind.u16.wrap ((IntKind.u16.wrap (bt a0 10)) * 256)) + (IntKind.u16.wrap (bt a0 11)))), .int .u32 t12, .int .u32 t16, .int .u32 t20, .int .u32 t24, .string (a0.extract 28 44), .string zb, .string za, .slice Aw wt.length cw] rfl)
      have HOh := Aside0.mk (show Kd.R k47 47 (wr.setCell ⟨gb236, 14, none⟩ (.slice Aw wt.length cw)) wq.heap.size (fun k => True ∧ wq.heap.size ≤ k) (.slice Aw wt.length cw) wt from Kd.R_far (Kd.R_mono (Kd.R_bound HOw.out) (fun k hk => ⟨trivial, hk.2.1⟩)) (fun k hk => Nat.ne_of_gt (Nat.lt_of_lt_of_le HLTg.out hk.2)) _)
      generalize wr.setCell ⟨gb236, 14, none⟩ (.slice Aw wt.length cw) = wh at HDs HOh ⊢
      clear hcg hfg HDr HDq
      go_wp2_with (first | ((with_reducible refine gate_dst (N := 143) rfl ?_); refine XBox.loadL_ 143 rfl rfl 26 rfl gb236 rfl #[.int .u8 (bt a0 0), .int .u8 (bt a0 1), .int .u8 (bt a0 2), .int .u8 (bt a0 3), .int .u32 t4, .int .u16 (IntKind.u16.wrap ((IntKind.u16.wrap ((IntKind.u16.wrap (bt a0 8)) * 256)) + (IntKind.u16.wrap (bt a0 9)))), .int .u16 (IntKind.u16.wrap ((IntKind.u16.wrap ((IntKind.u16.wrap (bt a0 10)) * 256)) + (IntKind.u16.wrap (bt a0 11)))), .int .u32 t12, .int .u32 t16, .int .u32 t20, .int .u32 t24, .string (a0.extract 28 44), .string zb, .string za, .slice Aw wt.length cw] HDs.out.bb hu26 rfl hi26 ?_; simp only [Act.put, List.setIfInBounds_toArray, List.set_cons_zero, List.set_cons_succ]) | ((with_reducible refine gate_store (p := 2) rfl ?_); refine XBox.storeL_ rfl rfl 26 rfl gb235 rfl #[.int .u8 0, .int .u8 0, .int .u8 0, .int .u8 0, .int .u32 0, .int .u16 0, .int .u16 0, .int .u32 0, .int .u32 0, .int .u32 0, .int .u32 0, .string (⟨#[]⟩ : ByteArray), .string (⟨#[]⟩ : ByteArray), .string (⟨#[]⟩ : ByteArray), .slice none 0 0] #[.int .u8 (bt a0 0), .int .u8 (bt a0 1), .int .u8 (bt a0 2), .int .u8 (bt a0 3), .int .u32 t4, .int .u16 (IntKind.u16.wrap ((IntKind.u16.wrap ((IntKind.u16.wrap (bt a0 8)) * 256)) + (IntKind.u16.wrap (bt a0 9)))), .int .u16 (IntKind.u16.wrap ((IntKind.u16.wrap ((IntKind.u16.wrap (bt a0 10)) * 256)) + (IntKind.u16.wrap (bt a0 11)))), .int .u32 t12, .int .u32 t16, .int .u32 t20, .int .u32 t24, .string (a0.extract 28 44), .string zb, .string za, .slice Aw wt.length cw] rfl HDs.out.ba hi26 (Eq.refl 15) (by simp [Value.oneCell']) ?_; intro wi hw1 hw2 hw3; have BR := Aside0.mk hw1; have HR := Aside0.mk (HDs.out.bel.trans (hw2 _ GE235.out)); have HOr := Aside0.mk (Kd.R_lower (Kd.R_mono (Kd.R_step HOh.out (fun k hk _ => hw3 k (Nat.ne_of_gt (Nat.lt_of_lt_of_le HLTa.out hk.2)))) (fun _ _ => trivial)) HSz.out); clear hw1 hw2 hw3))
      refine bodyPost_ret (results_ct rfl _ _ gb235 26 #[.int .u8 (bt a0 0), .int .u8 (bt a0 1), .int .u8 (bt a0 2), .int .u8 (bt a0 3), .int .u32 t4, .int .u16 (IntKind.u16.wrap ((IntKind.u16.wrap ((IntKind.u16.wrap (bt a0 8)) * 256)) + (IntKind.u16.wrap (bt a0 9)))), .int .u16 (IntKind.u16.wrap ((IntKind.u16.wrap ((IntKind.u16.wrap (bt a0 10)) * 256)) + (IntKind.u16.wrap (bt a0 11)))), .int .u32 t12, .int .u32 t16, .int .u32 t20, .int .u32 t24, .string (a0.extract 28 44), .string zb, .string za, .slice Aw wt.length cw] (0, 0) _ rfl BR.out hu26 rfl (by kernel_rfl)) rfl ?_
      exact ⟨_, rfl, HOr.out, HR.out⟩

end Go.Proofs.Ytdhmlenmnobmfaa.X
