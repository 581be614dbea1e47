/-
  DERIVED. GIVEN WITH THE SEED: THE CARDS: each row of YtjpcokifadaedaaDoorRows.lean that lists a variable, with what it lists TIED to the program's text (the seventh form; the later family's looks); each row that meets fmt, with fmt's text TOLD by the authors' own Lean function (tested against real Go, not proved from fmt's source: count such statements apart). THE CARD IS WHAT COUNTS. Prove the row's statement (the work); the ties are given (YtjpcokifadaedaaDoorTie.lean); close each card by the builder's one call (the guide's Derived/Test/ToyasCard.lean, 'card_holds'). Laid BY PROGRAM, IN A SANDBOX (cutbox-door.mjs). By AI agents, Wed Nov 11 2026. No macro, syntax, notation, axiom, sorry.
-/
import Derived.Test.YtjpcokifadaedaaDoorRows
import GoSem.ClaimSeven
namespace Go.Proofs.YtjpcokifadaedaaDoor
namespace Rows

/-- THE TIED CARD OF 'tenancylaw05.DigestSums'. -/
def digestSumsCard : Claim7 := { stood := { row := digestSumsRow, standIns := [], harness := (true, "aa5b608d86952bd0711dae61d89e4800522ccd5fe09335bbf2e60e5717b29a84"), looks := false }, kinds := [], alts := [], laidByText := true, laidKinds := [.data, .data, .data, .data], laidTests := true, laidLooks := .later }
def DigestSumsCardSaid : Prop := Claim7.holds Tryd.pinned (.plain (OpenSpec.ofChange digestSumsSpec)) digestSumsCard

/-- THE TIED CARD OF 'tenancylaw05.DigestKeys'. -/
def digestKeysCard : Claim7 := { stood := { row := digestKeysRow, standIns := [], harness := (true, "aa5b608d86952bd0711dae61d89e4800522ccd5fe09335bbf2e60e5717b29a84"), looks := false }, kinds := [], alts := [], laidByText := true, laidKinds := [.data, .data, .data, .data], laidTests := true, laidLooks := .later }
def DigestKeysCardSaid : Prop := Claim7.holds Tryd.pinned (.plain (OpenSpec.ofChange digestKeysSpec)) digestKeysCard

/-- THE TIED CARD OF 'tenancylaw05.DigestLinear'. -/
def digestLinearCard : Claim7 := { stood := { row := digestLinearRow, standIns := [], harness := (true, "aa5b608d86952bd0711dae61d89e4800522ccd5fe09335bbf2e60e5717b29a84"), looks := false }, kinds := [], alts := [], laidByText := true, laidKinds := [.data, .data], laidTests := true, laidLooks := .later }
def DigestLinearCardSaid : Prop := Claim7.holds Tryd.pinned (.plain (OpenSpec.ofChange digestLinearSpec)) digestLinearCard

/-- THE TIED CARD OF 'tenancylaw05.DigestBits'. -/
def digestBitsCard : Claim7 := { stood := { row := digestBitsRow, standIns := [], harness := (true, "aa5b608d86952bd0711dae61d89e4800522ccd5fe09335bbf2e60e5717b29a84"), looks := false }, kinds := [], alts := [], laidByText := true, laidKinds := [.data, .data], laidTests := true, laidLooks := .later }
def DigestBitsCardSaid : Prop := Claim7.holds Tryd.pinned (.plain (OpenSpec.ofChange digestBitsSpec)) digestBitsCard

/-- THE TIED CARD OF 'tenancylaw05.DigestForms'. -/
def digestFormsCard : Claim7 := { stood := { row := digestFormsRow, standIns := [], harness := (true, "aa5b608d86952bd0711dae61d89e4800522ccd5fe09335bbf2e60e5717b29a84"), looks := false }, kinds := [], alts := [], laidByText := true, laidKinds := [.data, .data], laidTests := true, laidLooks := .later }
def DigestFormsCardSaid : Prop := Claim7.holds Tryd.pinned (.plain (OpenSpec.ofChange digestFormsSpec)) digestFormsCard

/-- THE SECOND FORM's CARD OF 'tenancylaw05.DigestSums'. -/
def digestSumsUptoCard : Claim7 := { stood := { row := digestSumsUptoRow, standIns := [], harness := (true, "aa5b608d86952bd0711dae61d89e4800522ccd5fe09335bbf2e60e5717b29a84"), looks := false }, kinds := [], alts := [], laidByText := true, laidKinds := [.data, .data, .data, .data], laidTests := true, laidLooks := .later }
def DigestSumsUptoCardSaid : Prop := Claim7.holds Tryd.pinned (.plain (OpenSpec.upto digestSumsSpec)) digestSumsUptoCard

/-- THE SECOND FORM's CARD OF 'tenancylaw05.DigestKeys'. -/
def digestKeysUptoCard : Claim7 := { stood := { row := digestKeysUptoRow, standIns := [], harness := (true, "aa5b608d86952bd0711dae61d89e4800522ccd5fe09335bbf2e60e5717b29a84"), looks := false }, kinds := [], alts := [], laidByText := true, laidKinds := [.data, .data, .data, .data], laidTests := true, laidLooks := .later }
def DigestKeysUptoCardSaid : Prop := Claim7.holds Tryd.pinned (.plain (OpenSpec.upto digestKeysSpec)) digestKeysUptoCard

/-- THE SECOND FORM's CARD OF 'tenancylaw05.DigestLinear'. -/
def digestLinearUptoCard : Claim7 := { stood := { row := digestLinearUptoRow, standIns := [], harness := (true, "aa5b608d86952bd0711dae61d89e4800522ccd5fe09335bbf2e60e5717b29a84"), looks := false }, kinds := [], alts := [], laidByText := true, laidKinds := [.data, .data], laidTests := true, laidLooks := .later }
def DigestLinearUptoCardSaid : Prop := Claim7.holds Tryd.pinned (.plain (OpenSpec.upto digestLinearSpec)) digestLinearUptoCard

/-- THE SECOND FORM's CARD OF 'tenancylaw05.DigestBits'. -/
def digestBitsUptoCard : Claim7 := { stood := { row := digestBitsUptoRow, standIns := [], harness := (true, "aa5b608d86952bd0711dae61d89e4800522ccd5fe09335bbf2e60e5717b29a84"), looks := false }, kinds := [], alts := [], laidByText := true, laidKinds := [.data, .data], laidTests := true, laidLooks := .later }
def DigestBitsUptoCardSaid : Prop := Claim7.holds Tryd.pinned (.plain (OpenSpec.upto digestBitsSpec)) digestBitsUptoCard

/-- THE SECOND FORM's CARD OF 'tenancylaw05.DigestForms'. -/
def digestFormsUptoCard : Claim7 := { stood := { row := digestFormsUptoRow, standIns := [], harness := (true, "aa5b608d86952bd0711dae61d89e4800522ccd5fe09335bbf2e60e5717b29a84"), looks := false }, kinds := [], alts := [], laidByText := true, laidKinds := [.data, .data], laidTests := true, laidLooks := .later }
def DigestFormsUptoCardSaid : Prop := Claim7.holds Tryd.pinned (.plain (OpenSpec.upto digestFormsSpec)) digestFormsUptoCard
end Rows
end Go.Proofs.YtjpcokifadaedaaDoor
