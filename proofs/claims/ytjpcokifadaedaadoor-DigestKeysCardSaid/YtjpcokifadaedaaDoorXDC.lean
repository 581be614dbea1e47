import Derived.RangeFuncNested
import Derived.RangeFuncBound
import Derived.RangeFuncCalls
import Derived.RangeFuncLeaves
import Derived.Shelf.Abstract
import Derived.Shelf.RegionOpen
import Derived.WalkKit
import Derived.OwnWalkIn
import Derived.TacticsInMore
import Derived.LoopNIn
import Derived.LoopIn
import Derived.Lib.AppendZerosOnto
import Derived.Shelf.Spec.SlicesInsert
import Derived.Deep.RegionLaw
import Derived.WalkLawsBesides
import Derived.Recover
import Derived.Defers
import Derived.Test.YtjpcokifadaedaaDoorX0
import Derived.Test.YtjpcokifadaedaaDoorXOrow
import Derived.Outline
import Derived.Lib.Hide
import Derived.Laws.IdiomCopy
import Derived.Lib.SliceRun
import Derived.WalkSpells
import Derived.Test.YtjpcokifadaedaaDoorXDA
namespace Go.Proofs.YtjpcokifadaedaaDoor.X
open Go.RowKit Go.Proofs.YtjpcokifadaedaaDoorW.PrintWords Go.Proofs.YtjpcokifadaedaaDoorW.PrintLast Go.Proofs.YtjpcokifadaedaaDoorW.PrintMore
set_option linter.unusedVariables false
set_option linter.unusedSimpArgs false
/-! ### tenancylaw05_DigestKeys: function 4: by hand -/
set_option maxHeartbeats 4000000 in
set_option maxRecDepth 100000 in
theorem tenancylaw05_DigestKeys.calls (key s : ByteArray) (hk : key.size ≤ 140737488351232) (hs : s.size ≤ 140737488351232) (hm : digest_HMAC.f key s = tenancyref05_HMAC.f key s) (w : World) (gl : Glob w) (rgl : RGlob w) :
    Calls Tryd.prog 4 #[.string key, .string s] w fun e w' => e = .returned (.bool true) ∧ Below w.heap.size w w' := by
  have GL := Aside0.mk gl
  have RGL := Aside0.mk rgl
  have HZ := Aside0.mk hs
  have HK := Aside0.mk hk
  have HM := Aside0.mk hm
  clear gl rgl hs hk hm
  go_enter Tryd.func4, Tryd.ntmps4
  generalize hmv : tenancyref05_HMAC.f key s = mv at HM
  go_wp2_with (first
    | (go_at_call 8; refine (tenancylaw05_awake.calls _ GL.out).mono ?_; rintro e w1 ⟨rfl, hb⟩; have HB1 := Aside0.mk hb; clear hb)
    | (go_at_call 13; refine (digest_HMAC.calls key s (by have := HK.out; omega) (by have := HZ.out; omega) _ (GL.out.below HB1.out)).mono ?_; rintro e w4 ⟨rfl, hb⟩; rw [HM.out]; have HB4 := Aside0.mk (below_step HB1.out hb); clear hb)
    | (go_at_call 14; refine (tenancyref05_HMAC.calls key s (by have := HK.out; omega) (by have := HZ.out; omega) _ (RGL.out.below HB4.out)).mono ?_; rintro e w5 ⟨rfl, hb⟩; rw [hmv]; have HB5 := Aside0.mk (below_step HB4.out hb); clear hb))
  go_ret
  exact ⟨by simp, HB5.out⟩

end Go.Proofs.YtjpcokifadaedaaDoor.X
