/-
  DERIVED. GIVEN WITH THE SEED: THE PROGRAM's TIES (one call each: nine closed facts by the kernel) AND EACH ROW's TIE, after the 31st guide's Derived/Test/Toyas{Tie, Card}.lean. No idea stands in it: it is a product of the set-up. Laid BY PROGRAM, IN A SANDBOX (cutbox-door.mjs). By AI agents, Wed Nov 11 2026. No macro, syntax, notation, axiom, sorry.
-/
import Derived.Test.YtjpcokifadaedaaDoorRows
import Derived.LaidByTextLater
import Derived.SevenTiedAt
import Derived.LaidSub
import Derived.LaidOnce
namespace Go.Proofs.YtjpcokifadaedaaDoor
open Go
set_option maxRecDepth 100000
theorem seatTie1 : Tryd.prog.laidByTextLater [("tenancy/tenancyref05.sines", Rows.laid_tenancy_tenancyref05_sines), ("tenancy/tenancyref05.shifts", Rows.laid_tenancy_tenancyref05_shifts), ("tenancy/digest.sines", Rows.laid_tenancy_digest_sines), ("tenancy/digest.turns", Rows.laid_tenancy_digest_turns)] [.data, .data, .data, .data] true :=
  Program.laidByTextLater_by_one 33 8 65 (by kernel_rfl) (by kernel_rfl) (by kernel_rfl) (by kernel_rfl) (by kernel_rfl) (by kernel_rfl) (fun _ _ => by kernel_rfl)
theorem noOwnUnsafe : Tryd.pinned.checked.prog.headLifts.contains "ownunsafe" = false := by kernel_rfl
theorem tie : Tryd.prog.laidByTextLater [("tenancy/tenancyref05.sines", Rows.laid_tenancy_tenancyref05_sines), ("tenancy/tenancyref05.shifts", Rows.laid_tenancy_tenancyref05_shifts), ("tenancy/digest.sines", Rows.laid_tenancy_digest_sines), ("tenancy/digest.turns", Rows.laid_tenancy_digest_turns)] [.data, .data, .data, .data] true :=
  Program.laidByTextLater.sub seatTie1 ["tenancy/tenancyref05.sines", "tenancy/tenancyref05.shifts", "tenancy/digest.sines", "tenancy/digest.turns"] (by kernel_rfl) (by kernel_rfl)
theorem digestSums_row_tie : Rows.digestSumsRow.laidByTextAt .later Tryd.pinned [.data, .data, .data, .data] true :=
  OpenClaim.laidByTextAt_later rfl rfl tie noOwnUnsafe
theorem digestKeys_row_tie : Rows.digestKeysRow.laidByTextAt .later Tryd.pinned [.data, .data, .data, .data] true :=
  OpenClaim.laidByTextAt_later rfl rfl tie noOwnUnsafe
theorem tie2 : Tryd.prog.laidByTextLater [("tenancy/digest.sines", Rows.laid_tenancy_digest_sines), ("tenancy/digest.turns", Rows.laid_tenancy_digest_turns)] [.data, .data] true :=
  Program.laidByTextLater.sub seatTie1 ["tenancy/digest.sines", "tenancy/digest.turns"] (by kernel_rfl) (by kernel_rfl)
theorem digestLinear_row_tie : Rows.digestLinearRow.laidByTextAt .later Tryd.pinned [.data, .data] true :=
  OpenClaim.laidByTextAt_later rfl rfl tie2 noOwnUnsafe
theorem digestBits_row_tie : Rows.digestBitsRow.laidByTextAt .later Tryd.pinned [.data, .data] true :=
  OpenClaim.laidByTextAt_later rfl rfl tie2 noOwnUnsafe
theorem digestForms_row_tie : Rows.digestFormsRow.laidByTextAt .later Tryd.pinned [.data, .data] true :=
  OpenClaim.laidByTextAt_later rfl rfl tie2 noOwnUnsafe
theorem digestSumsUpto_row_tie : Rows.digestSumsUptoRow.laidByTextAt .later Tryd.pinned [.data, .data, .data, .data] true :=
  OpenClaim.laidByTextAt_later rfl rfl tie noOwnUnsafe
theorem digestKeysUpto_row_tie : Rows.digestKeysUptoRow.laidByTextAt .later Tryd.pinned [.data, .data, .data, .data] true :=
  OpenClaim.laidByTextAt_later rfl rfl tie noOwnUnsafe
theorem digestLinearUpto_row_tie : Rows.digestLinearUptoRow.laidByTextAt .later Tryd.pinned [.data, .data] true :=
  OpenClaim.laidByTextAt_later rfl rfl tie2 noOwnUnsafe
theorem digestBitsUpto_row_tie : Rows.digestBitsUptoRow.laidByTextAt .later Tryd.pinned [.data, .data] true :=
  OpenClaim.laidByTextAt_later rfl rfl tie2 noOwnUnsafe
theorem digestFormsUpto_row_tie : Rows.digestFormsUptoRow.laidByTextAt .later Tryd.pinned [.data, .data] true :=
  OpenClaim.laidByTextAt_later rfl rfl tie2 noOwnUnsafe
end Go.Proofs.YtjpcokifadaedaaDoor
