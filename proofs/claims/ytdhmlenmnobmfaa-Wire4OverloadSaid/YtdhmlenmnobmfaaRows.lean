/-
  No cell of these rows narrows 'for every input' (looked for: loops, veiled, ifaces, maps, wideKeys, modest, calm, conditions, laid).
  DERIVED. THE GIVEN ROWS OF THIS SEAT. 5 by the template 'for every input the law returns true; each argument reads behind the call as it read before'; 0 by the template 'total and deterministic' (their statements: YtdhmlenmnobmfaaTotals.lean).
  GIVEN WITH THE SEED: the statements are not yours to turn. If you find one false, say at which input.
  Laid BY PROGRAM, IN A SANDBOX (cutbox-rows.mjs): the forced cells as the released guide's own fill.sh prints them over the translation ecc18f737f0972c2… (all of the seat's roots in one cut). By AI agents, Wed Nov 11 2026. No macro, syntax, notation, axiom, sorry.
-/
import Derived.Test.YtdhmlenmnobmfaaChecked
import GoSem.Claim
import GoSem.ClaimJoined
import GoSem.ClaimMapViews
import Derived.JoinedTies
import Derived.KernelRfl
namespace Go.Proofs.Ytdhmlenmnobmfaa
/- THE CELL 'sum', in the pinned program and in every row, IS THE sha256 OF THE DUMP (.gsa) THAT YtdhmlenmnobmfaaProg.lean LOADS. Nothing in Lean hashes anything: it is a label: what it is worth is what the hold of that sum in a sandbox is worth. -/
noncomputable def Try.pinned : Pinned := { name := "ytdhmlenmnobmfaa", sum := "ecc18f737f0972c251c2301ed97faa5b8664f32ae9eaacbe28d18712a39dc5d4", checked := Try.checked }
namespace Rows
def none {H : Type} : Left H := { results := [], args := [] }

/-- 'tenancylaw14.Wire4Encodes': WHATEVER THE INPUT: true; the input reads as it did. -/
def wire4EncodesSpec : ChangeSpec := { name := "wire4Encodes", fn := fun _ => fun
  | [d] => { results := [.lit (.bool true)], args := [d] }
  | _ => none }
def wire4EncodesRow : OpenClaim := { program := "ytdhmlenmnobmfaa", sum := "ecc18f737f0972c251c2301ed97faa5b8664f32ae9eaacbe28d18712a39dc5d4", func := "tenancy/tenancylaw14.Wire4Encodes", spec := "wire4Encodes", inPlace := ["internal/abi.NoEscape", "internal/bytealg.MakeNoZero"], unfollowed := true, recurses := true, apart := false }
def Wire4EncodesSaid : Prop := wire4EncodesRow.holds Try.pinned (OpenSpec.ofChange wire4EncodesSpec)

/-- ITS FALSE NEIGHBOUR: 'it returns false'. Refute it at one input. -/
def wire4EncodesWrong : ChangeSpec := { name := "wire4Encodes", fn := fun _ => fun
  | [d] => { results := [.lit (.bool false)], args := [d] }
  | _ => none }
def Wire4EncodesWrongFalsely : Prop := wire4EncodesRow.holds Try.pinned (OpenSpec.ofChange wire4EncodesWrong)

/-- 'tenancylaw14.Wire4Decodes': WHATEVER THE INPUT: true; the input reads as it did. -/
def wire4DecodesSpec : ChangeSpec := { name := "wire4Decodes", fn := fun _ => fun
  | [d] => { results := [.lit (.bool true)], args := [d] }
  | _ => none }
def wire4DecodesRow : OpenClaim := { program := "ytdhmlenmnobmfaa", sum := "ecc18f737f0972c251c2301ed97faa5b8664f32ae9eaacbe28d18712a39dc5d4", func := "tenancy/tenancylaw14.Wire4Decodes", spec := "wire4Decodes", inPlace := ["internal/abi.NoEscape", "internal/bytealg.MakeNoZero"], unfollowed := true, recurses := true, apart := false }
def Wire4DecodesSaid : Prop := wire4DecodesRow.holds Try.pinned (OpenSpec.ofChange wire4DecodesSpec)

/-- ITS FALSE NEIGHBOUR: 'it returns false'. Refute it at one input. -/
def wire4DecodesWrong : ChangeSpec := { name := "wire4Decodes", fn := fun _ => fun
  | [d] => { results := [.lit (.bool false)], args := [d] }
  | _ => none }
def Wire4DecodesWrongFalsely : Prop := wire4DecodesRow.holds Try.pinned (OpenSpec.ofChange wire4DecodesWrong)

/-- 'tenancylaw14.Wire4Back': WHATEVER THE INPUT: true; the input reads as it did. -/
def wire4BackSpec : ChangeSpec := { name := "wire4Back", fn := fun _ => fun
  | [d1, d2] => { results := [.lit (.bool true)], args := [d1, d2] }
  | _ => none }
def wire4BackRow : OpenClaim := { program := "ytdhmlenmnobmfaa", sum := "ecc18f737f0972c251c2301ed97faa5b8664f32ae9eaacbe28d18712a39dc5d4", func := "tenancy/tenancylaw14.Wire4Back", spec := "wire4Back", inPlace := ["internal/abi.NoEscape", "internal/bytealg.MakeNoZero"], unfollowed := true, recurses := true, apart := false }
def Wire4BackSaid : Prop := wire4BackRow.holds Try.pinned (OpenSpec.ofChange wire4BackSpec)

/-- ITS FALSE NEIGHBOUR: 'it returns false'. Refute it at one input. -/
def wire4BackWrong : ChangeSpec := { name := "wire4Back", fn := fun _ => fun
  | [d1, d2] => { results := [.lit (.bool false)], args := [d1, d2] }
  | _ => none }
def Wire4BackWrongFalsely : Prop := wire4BackRow.holds Try.pinned (OpenSpec.ofChange wire4BackWrong)

/-- 'tenancylaw14.Wire4Overload': WHATEVER THE INPUT: true; the input reads as it did. -/
def wire4OverloadSpec : ChangeSpec := { name := "wire4Overload", fn := fun _ => fun
  | [d1, d2, d3] => { results := [.lit (.bool true)], args := [d1, d2, d3] }
  | _ => none }
def wire4OverloadRow : OpenClaim := { program := "ytdhmlenmnobmfaa", sum := "ecc18f737f0972c251c2301ed97faa5b8664f32ae9eaacbe28d18712a39dc5d4", func := "tenancy/tenancylaw14.Wire4Overload", spec := "wire4Overload", inPlace := ["internal/abi.NoEscape", "internal/bytealg.MakeNoZero"], unfollowed := true, recurses := true, apart := false }
def Wire4OverloadSaid : Prop := wire4OverloadRow.holds Try.pinned (OpenSpec.ofChange wire4OverloadSpec)

/-- ITS FALSE NEIGHBOUR: 'it returns false'. Refute it at one input. -/
def wire4OverloadWrong : ChangeSpec := { name := "wire4Overload", fn := fun _ => fun
  | [d1, d2, d3] => { results := [.lit (.bool false)], args := [d1, d2, d3] }
  | _ => none }
def Wire4OverloadWrongFalsely : Prop := wire4OverloadRow.holds Try.pinned (OpenSpec.ofChange wire4OverloadWrong)

/-- 'tenancylaw14.Wire4Short': WHATEVER THE INPUT: true; the input reads as it did. -/
def wire4ShortSpec : ChangeSpec := { name := "wire4Short", fn := fun _ => fun
  | [d1, d2, d3] => { results := [.lit (.bool true)], args := [d1, d2, d3] }
  | _ => none }
def wire4ShortRow : OpenClaim := { program := "ytdhmlenmnobmfaa", sum := "ecc18f737f0972c251c2301ed97faa5b8664f32ae9eaacbe28d18712a39dc5d4", func := "tenancy/tenancylaw14.Wire4Short", spec := "wire4Short", inPlace := ["internal/abi.NoEscape", "internal/bytealg.MakeNoZero"], unfollowed := true, recurses := true, apart := false }
def Wire4ShortSaid : Prop := wire4ShortRow.holds Try.pinned (OpenSpec.ofChange wire4ShortSpec)

/-- ITS FALSE NEIGHBOUR: 'it returns false'. Refute it at one input. -/
def wire4ShortWrong : ChangeSpec := { name := "wire4Short", fn := fun _ => fun
  | [d1, d2, d3] => { results := [.lit (.bool false)], args := [d1, d2, d3] }
  | _ => none }
def Wire4ShortWrongFalsely : Prop := wire4ShortRow.holds Try.pinned (OpenSpec.ofChange wire4ShortWrong)

/- THE SECOND FORM. 'bulk': how many values and letters a reading holds, each counted each time it is reached (what is shared counts as often as it is met; a slice's spare places count too). A statement '..UptoSaid' is the law's where the arguments, and the package variables that the reading takes, are together of bulk at most 1048576: NARROWER than '..Said'. Prove '..Said' where nothing that the law and all that it calls make is longer than what came in: it says more and counts as full. Else prove '..UptoSaid'. A law counts once. -/
mutual
def uptoBulk {H : Type} : DataW H → Nat
  | .lit (.string bytes) => bytes.length + 1
  | .lit _ => 1
  | .nil => 1
  | .ptr d => uptoBulk d + 1
  | .slice elems spare => uptoBulkAll elems + uptoBulkAll spare + 1
  | .agg parts => uptoBulkAll parts + 1
  | .iface _ d => uptoBulk d + 1
  | .map entries => uptoBulkEntries entries + 1
  | .held _ => 1
def uptoBulkAll {H : Type} : List (DataW H) → Nat
  | [] => 0
  | d :: r => uptoBulk d + uptoBulkAll r
def uptoBulkEntries {H : Type} : List (Lit × DataW H) → Nat
  | [] => 0
  | x :: r => uptoBulkEntry x + uptoBulkEntries r
def uptoBulkEntry {H : Type} : Lit × DataW H → Nat
  | (.string bytes, d) => bytes.length + uptoBulk d + 1
  | (_, d) => uptoBulk d + 1
 end
def uptoSmall : (H : Type) → List (DataW H) → Bool := fun _ ds => decide (uptoBulkAll ds ≤ 1048576)
def OpenSpec.upto (s : _root_.Go.ChangeSpec) : _root_.Go.OpenSpec := { _root_.Go.OpenSpec.ofChange s with cond := some uptoSmall }

/-- 'tenancylaw14.Wire4Encodes', WHERE WHAT IT READS IS OF BULK AT MOST 1048576: true; the input reads as it did. -/
def wire4EncodesUptoRow : OpenClaim := { program := "ytdhmlenmnobmfaa", sum := "ecc18f737f0972c251c2301ed97faa5b8664f32ae9eaacbe28d18712a39dc5d4", func := "tenancy/tenancylaw14.Wire4Encodes", spec := "wire4Encodes", inPlace := ["internal/abi.NoEscape", "internal/bytealg.MakeNoZero"], unfollowed := true, recurses := true, apart := false, narrowed := true }
def Wire4EncodesUptoSaid : Prop := wire4EncodesUptoRow.holds Try.pinned (OpenSpec.upto wire4EncodesSpec)

/-- 'tenancylaw14.Wire4Decodes', WHERE WHAT IT READS IS OF BULK AT MOST 1048576: true; the input reads as it did. -/
def wire4DecodesUptoRow : OpenClaim := { program := "ytdhmlenmnobmfaa", sum := "ecc18f737f0972c251c2301ed97faa5b8664f32ae9eaacbe28d18712a39dc5d4", func := "tenancy/tenancylaw14.Wire4Decodes", spec := "wire4Decodes", inPlace := ["internal/abi.NoEscape", "internal/bytealg.MakeNoZero"], unfollowed := true, recurses := true, apart := false, narrowed := true }
def Wire4DecodesUptoSaid : Prop := wire4DecodesUptoRow.holds Try.pinned (OpenSpec.upto wire4DecodesSpec)

/-- 'tenancylaw14.Wire4Back', WHERE WHAT IT READS IS OF BULK AT MOST 1048576: true; the input reads as it did. -/
def wire4BackUptoRow : OpenClaim := { program := "ytdhmlenmnobmfaa", sum := "ecc18f737f0972c251c2301ed97faa5b8664f32ae9eaacbe28d18712a39dc5d4", func := "tenancy/tenancylaw14.Wire4Back", spec := "wire4Back", inPlace := ["internal/abi.NoEscape", "internal/bytealg.MakeNoZero"], unfollowed := true, recurses := true, apart := false, narrowed := true }
def Wire4BackUptoSaid : Prop := wire4BackUptoRow.holds Try.pinned (OpenSpec.upto wire4BackSpec)

/-- 'tenancylaw14.Wire4Overload', WHERE WHAT IT READS IS OF BULK AT MOST 1048576: true; the input reads as it did. -/
def wire4OverloadUptoRow : OpenClaim := { program := "ytdhmlenmnobmfaa", sum := "ecc18f737f0972c251c2301ed97faa5b8664f32ae9eaacbe28d18712a39dc5d4", func := "tenancy/tenancylaw14.Wire4Overload", spec := "wire4Overload", inPlace := ["internal/abi.NoEscape", "internal/bytealg.MakeNoZero"], unfollowed := true, recurses := true, apart := false, narrowed := true }
def Wire4OverloadUptoSaid : Prop := wire4OverloadUptoRow.holds Try.pinned (OpenSpec.upto wire4OverloadSpec)

/-- 'tenancylaw14.Wire4Short', WHERE WHAT IT READS IS OF BULK AT MOST 1048576: true; the input reads as it did. -/
def wire4ShortUptoRow : OpenClaim := { program := "ytdhmlenmnobmfaa", sum := "ecc18f737f0972c251c2301ed97faa5b8664f32ae9eaacbe28d18712a39dc5d4", func := "tenancy/tenancylaw14.Wire4Short", spec := "wire4Short", inPlace := ["internal/abi.NoEscape", "internal/bytealg.MakeNoZero"], unfollowed := true, recurses := true, apart := false, narrowed := true }
def Wire4ShortUptoSaid : Prop := wire4ShortUptoRow.holds Try.pinned (OpenSpec.upto wire4ShortSpec)

end Rows
end Go.Proofs.Ytdhmlenmnobmfaa
