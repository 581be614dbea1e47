import Derived.RangeFuncNested
import Derived.RangeFuncBound
import Derived.RangeFuncCalls
import Derived.RangeFuncLeaves
import Derived.Shelf.Abstract
import Derived.Shelf.RegionOpen
import Derived.WalkKit
import Derived.OwnWalkIn
import Derived.TacticsInMore
import Derived.LoopNIn
import Derived.LoopIn
import Derived.Lib.AppendZerosOnto
import Derived.Shelf.Spec.SlicesInsert
import Derived.Deep.RegionLaw
import Derived.WalkLawsBesides
import Derived.Recover
import Derived.Defers
import Derived.Test.YtjpcokifadaedaaDoorX0
import Derived.Test.YtjpcokifadaedaaDoorXOrow
import Derived.Outline
import Derived.Lib.Hide
import Derived.Laws.IdiomCopy
import Derived.Lib.SliceRun
import Derived.WalkSpells
import Derived.Test.YtjpcokifadaedaaDoorXD9
namespace Go.Proofs.YtjpcokifadaedaaDoor.X
open Go.RowKit Go.Proofs.YtjpcokifadaedaaDoorW.PrintWords Go.Proofs.YtjpcokifadaedaaDoorW.PrintLast Go.Proofs.YtjpcokifadaedaaDoorW.PrintMore
set_option linter.unusedVariables false
set_option linter.unusedSimpArgs false
/-! ### tenancylaw05_DigestSums: function 3: by hand -/
set_option maxHeartbeats 4000000 in
set_option maxRecDepth 100000 in
theorem tenancylaw05_DigestSums.calls (s : ByteArray) (hs : s.size ≤ 140737488351232) (r : Int) (k : Nat) (hc : digest_CRC.f s = some r) (hr : tenancyref05_CRC.f k s = some r) (hm : digest_MD5.f s = tenancyref05_MD5.f s) (w : World) (gl : Glob w) (rgl : RGlob w) :
    Calls Tryd.prog 3 #[.string s] w fun e w' => e = .returned (.bool true) ∧ Below w.heap.size w w' := by
  have GL := Aside0.mk gl
  have RGL := Aside0.mk rgl
  have HZ := Aside0.mk hs
  have HC := Aside0.mk hc
  have HR := Aside0.mk hr
  have HM := Aside0.mk hm
  clear gl rgl hs hc hr hm
  go_enter Tryd.func3, Tryd.ntmps3
  generalize hmv : tenancyref05_MD5.f s = mv at HM
  have hrr : (r == r) = true := beq_self_eq_true r
  have hrd : decide (r = r) = true := decide_eq_true rfl
  go_wp2_with (first
    | (go_at_call 8; refine (tenancylaw05_awake.calls _ GL.out).mono ?_; rintro e w1 ⟨rfl, hb⟩; have HB1 := Aside0.mk hb; clear hb)
    | (go_at_call 9; refine (digest_CRC.calls s r _ HC.out).mono ?_; rintro e w2 ⟨rfl, hb⟩; have HB2 := Aside0.mk (below_step HB1.out hb); clear hb)
    | (go_at_call 10; refine (tenancyref05_CRC.calls k s r _ HR.out).mono ?_; rintro e w3 ⟨rfl, hd⟩; have hb := hd.below; have HB3 := Aside0.mk (below_step HB2.out hb); clear hb hd)
    | (go_at_call 11; refine (digest_MD5.calls s (by have := HZ.out; omega) _ (GL.out.below HB3.out)).mono ?_; rintro e w4 ⟨rfl, hb⟩; rw [HM.out]; have HB4 := Aside0.mk (below_step HB3.out hb); clear hb)
    | (go_at_call 12; refine (tenancyref05_MD5.calls s (by have := HZ.out; omega) _ (RGL.out.below HB4.out)).mono ?_; rintro e w5 ⟨rfl, hb⟩; rw [hmv]; have HB5 := Aside0.mk (below_step HB4.out hb); clear hb))
  go_ret
  exact ⟨by simp, HB5.out⟩

end Go.Proofs.YtjpcokifadaedaaDoor.X
