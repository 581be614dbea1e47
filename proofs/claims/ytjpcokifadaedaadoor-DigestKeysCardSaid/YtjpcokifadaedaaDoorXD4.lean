import Derived.RangeFuncNested
import Derived.RangeFuncBound
import Derived.RangeFuncCalls
import Derived.RangeFuncLeaves
import Derived.Shelf.Abstract
import Derived.Shelf.RegionOpen
import Derived.WalkKit
import Derived.OwnWalkIn
import Derived.TacticsInMore
import Derived.LoopNIn
import Derived.LoopIn
import Derived.Lib.AppendZerosOnto
import Derived.Shelf.Spec.SlicesInsert
import Derived.Deep.RegionLaw
import Derived.WalkLawsBesides
import Derived.Recover
import Derived.Defers
import Derived.Test.YtjpcokifadaedaaDoorX0
import Derived.Test.YtjpcokifadaedaaDoorXOrow
import Derived.Outline
import Derived.Lib.Hide
import Derived.Laws.IdiomCopy
import Derived.Lib.SliceRun
import Derived.WalkSpells
import Derived.Test.YtjpcokifadaedaaDoorXD3
namespace Go.Proofs.YtjpcokifadaedaaDoor.X
open Go.RowKit Go.Proofs.YtjpcokifadaedaaDoorW.PrintWords Go.Proofs.YtjpcokifadaedaaDoorW.PrintLast Go.Proofs.YtjpcokifadaedaaDoorW.PrintMore
set_option linter.unusedVariables false
set_option linter.unusedSimpArgs false
/-! ### the values that the document fixes: by hand -/
set_option maxRecDepth 100000 in
theorem val_crc : digest_CRC.f ⟨#[49, 50, 51, 52, 53, 54, 55, 56, 57]⟩ = some 3421780262 := by decide +kernel
set_option maxRecDepth 100000 in
theorem val_md5 : digest_MD5.f ⟨#[97, 98, 99]⟩ = ⟨#[144, 1, 80, 152, 60, 210, 79, 176, 214, 150, 63, 125, 40, 225, 127, 114]⟩ := by decide +kernel
set_option maxRecDepth 100000 in
theorem val_hmac : digest_HMAC.f ⟨#[74, 101, 102, 101]⟩ ⟨#[119, 104, 97, 116, 32, 100, 111, 32, 121, 97, 32, 119, 97, 110, 116, 32, 102, 111, 114, 32, 110, 111, 116, 104, 105, 110, 103, 63]⟩ = ⟨#[117, 12, 120, 62, 106, 176, 181, 3, 234, 168, 110, 49, 10, 93, 183, 56]⟩ := by decide +kernel

/-! ### tenancylaw05_awake: function 8: by hand -/
set_option maxHeartbeats 4000000 in
set_option maxRecDepth 100000 in
theorem tenancylaw05_awake.calls (w : World) (gl : Glob w) :
    Calls Tryd.prog 8 #[] w fun e w' => e = .returned (.bool true) ∧ Below w.heap.size w w' := by
  have GL := Aside0.mk gl
  clear gl
  go_enter Tryd.func8, Tryd.ntmps8
  go_wp2_with (first
    | (go_at_call 9; refine (digest_CRC.calls _ _ _ val_crc).mono ?_; rintro e w1 ⟨rfl, hb⟩; have HB1 := Aside0.mk hb; clear hb)
    | (go_at_call 11; refine (digest_MD5.calls _ (by decide) _ (GL.out.below HB1.out)).mono ?_; rintro e w2 ⟨rfl, hb⟩; rw [val_md5]; have HB2 := Aside0.mk (below_step HB1.out hb); clear hb)
    | (go_at_call 13; refine (digest_HMAC.calls _ _ (by decide) (by decide) _ (GL.out.below HB2.out)).mono ?_; rintro e w3 ⟨rfl, hb⟩; rw [val_hmac]; have HB3 := Aside0.mk (below_step HB2.out hb); clear hb))
  go_ret
  exact ⟨rfl, HB3.out⟩

end Go.Proofs.YtjpcokifadaedaaDoor.X
