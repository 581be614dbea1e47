/-
  No cell of these rows narrows 'for every input' (looked for: loops, veiled, ifaces, maps, wideKeys, modest, calm, conditions, laid).
  DERIVED. THE GIVEN ROWS OF THIS SEAT. 6 by the template 'for every input the law returns true; each argument reads behind the call as it read before'; 0 by the template 'total and deterministic' (their statements: YthadapbekmmgpaaTotals.lean).
  GIVEN WITH THE SEED: the statements are not yours to turn. If you find one false, say at which input.
  Laid BY PROGRAM, IN A SANDBOX (cutbox-rows.mjs): the forced cells as the released guide's own fill.sh prints them over the translation b3b20b6a8549aeac… (all of the seat's roots in one cut). By AI agents, Wed Nov 11 2026. No macro, syntax, notation, axiom, sorry.
-/
import Derived.Test.YthadapbekmmgpaaChecked
import GoSem.Claim
import GoSem.ClaimJoined
import GoSem.ClaimMapViews
import Derived.JoinedTies
import Derived.KernelRfl
namespace Go.Proofs.Ythadapbekmmgpaa
/- THE CELL 'sum', in the pinned program and in every row, IS THE sha256 OF THE DUMP (.gsa) THAT YthadapbekmmgpaaProg.lean LOADS. Nothing in Lean hashes anything: it is a label: what it is worth is what the hold of that sum in a sandbox is worth. -/
noncomputable def Try.pinned : Pinned := { name := "ythadapbekmmgpaa", sum := "b3b20b6a8549aeac256b94b4e4a9a331ad920188060805cda9ac4cfd61e007fe", checked := Try.checked }
namespace Rows
def none {H : Type} : Left H := { results := [], args := [] }

/-- 'tenancylaw16.Wire6Encodes': WHATEVER THE INPUT: true; the input reads as it did. -/
def wire6EncodesSpec : ChangeSpec := { name := "wire6Encodes", fn := fun _ => fun
  | [d] => { results := [.lit (.bool true)], args := [d] }
  | _ => none }
def wire6EncodesRow : OpenClaim := { program := "ythadapbekmmgpaa", sum := "b3b20b6a8549aeac256b94b4e4a9a331ad920188060805cda9ac4cfd61e007fe", func := "tenancy/tenancylaw16.Wire6Encodes", spec := "wire6Encodes", inPlace := ["internal/abi.NoEscape", "internal/bytealg.MakeNoZero"], unfollowed := true, recurses := true, apart := false }
def Wire6EncodesSaid : Prop := wire6EncodesRow.holds Try.pinned (OpenSpec.ofChange wire6EncodesSpec)

/-- ITS FALSE NEIGHBOUR: 'it returns false'. Refute it at one input. -/
def wire6EncodesWrong : ChangeSpec := { name := "wire6Encodes", fn := fun _ => fun
  | [d] => { results := [.lit (.bool false)], args := [d] }
  | _ => none }
def Wire6EncodesWrongFalsely : Prop := wire6EncodesRow.holds Try.pinned (OpenSpec.ofChange wire6EncodesWrong)

/-- 'tenancylaw16.Wire6Decodes': WHATEVER THE INPUT: true; the input reads as it did. -/
def wire6DecodesSpec : ChangeSpec := { name := "wire6Decodes", fn := fun _ => fun
  | [d] => { results := [.lit (.bool true)], args := [d] }
  | _ => none }
def wire6DecodesRow : OpenClaim := { program := "ythadapbekmmgpaa", sum := "b3b20b6a8549aeac256b94b4e4a9a331ad920188060805cda9ac4cfd61e007fe", func := "tenancy/tenancylaw16.Wire6Decodes", spec := "wire6Decodes", inPlace := ["internal/abi.NoEscape", "internal/bytealg.MakeNoZero"], unfollowed := true, recurses := true, apart := false }
def Wire6DecodesSaid : Prop := wire6DecodesRow.holds Try.pinned (OpenSpec.ofChange wire6DecodesSpec)

/-- ITS FALSE NEIGHBOUR: 'it returns false'. Refute it at one input. -/
def wire6DecodesWrong : ChangeSpec := { name := "wire6Decodes", fn := fun _ => fun
  | [d] => { results := [.lit (.bool false)], args := [d] }
  | _ => none }
def Wire6DecodesWrongFalsely : Prop := wire6DecodesRow.holds Try.pinned (OpenSpec.ofChange wire6DecodesWrong)

/-- 'tenancylaw16.Wire6Back': WHATEVER THE INPUT: true; the input reads as it did. -/
def wire6BackSpec : ChangeSpec := { name := "wire6Back", fn := fun _ => fun
  | [d1, d2] => { results := [.lit (.bool true)], args := [d1, d2] }
  | _ => none }
def wire6BackRow : OpenClaim := { program := "ythadapbekmmgpaa", sum := "b3b20b6a8549aeac256b94b4e4a9a331ad920188060805cda9ac4cfd61e007fe", func := "tenancy/tenancylaw16.Wire6Back", spec := "wire6Back", inPlace := ["internal/abi.NoEscape", "internal/bytealg.MakeNoZero"], unfollowed := true, recurses := true, apart := false }
def Wire6BackSaid : Prop := wire6BackRow.holds Try.pinned (OpenSpec.ofChange wire6BackSpec)

/-- ITS FALSE NEIGHBOUR: 'it returns false'. Refute it at one input. -/
def wire6BackWrong : ChangeSpec := { name := "wire6Back", fn := fun _ => fun
  | [d1, d2] => { results := [.lit (.bool false)], args := [d1, d2] }
  | _ => none }
def Wire6BackWrongFalsely : Prop := wire6BackRow.holds Try.pinned (OpenSpec.ofChange wire6BackWrong)

/-- 'tenancylaw16.Wire6Order': WHATEVER THE INPUT: true; the input reads as it did. -/
def wire6OrderSpec : ChangeSpec := { name := "wire6Order", fn := fun _ => fun
  | [d] => { results := [.lit (.bool true)], args := [d] }
  | _ => none }
def wire6OrderRow : OpenClaim := { program := "ythadapbekmmgpaa", sum := "b3b20b6a8549aeac256b94b4e4a9a331ad920188060805cda9ac4cfd61e007fe", func := "tenancy/tenancylaw16.Wire6Order", spec := "wire6Order", inPlace := ["internal/abi.NoEscape", "internal/bytealg.MakeNoZero"], unfollowed := true, recurses := true, apart := false }
def Wire6OrderSaid : Prop := wire6OrderRow.holds Try.pinned (OpenSpec.ofChange wire6OrderSpec)

/-- ITS FALSE NEIGHBOUR: 'it returns false'. Refute it at one input. -/
def wire6OrderWrong : ChangeSpec := { name := "wire6Order", fn := fun _ => fun
  | [d] => { results := [.lit (.bool false)], args := [d] }
  | _ => none }
def Wire6OrderWrongFalsely : Prop := wire6OrderRow.holds Try.pinned (OpenSpec.ofChange wire6OrderWrong)

/-- 'tenancylaw16.Wire6Twice': WHATEVER THE INPUT: true; the input reads as it did. -/
def wire6TwiceSpec : ChangeSpec := { name := "wire6Twice", fn := fun _ => fun
  | [d1, d2] => { results := [.lit (.bool true)], args := [d1, d2] }
  | _ => none }
def wire6TwiceRow : OpenClaim := { program := "ythadapbekmmgpaa", sum := "b3b20b6a8549aeac256b94b4e4a9a331ad920188060805cda9ac4cfd61e007fe", func := "tenancy/tenancylaw16.Wire6Twice", spec := "wire6Twice", inPlace := ["internal/abi.NoEscape", "internal/bytealg.MakeNoZero"], unfollowed := true, recurses := true, apart := false }
def Wire6TwiceSaid : Prop := wire6TwiceRow.holds Try.pinned (OpenSpec.ofChange wire6TwiceSpec)

/-- ITS FALSE NEIGHBOUR: 'it returns false'. Refute it at one input. -/
def wire6TwiceWrong : ChangeSpec := { name := "wire6Twice", fn := fun _ => fun
  | [d1, d2] => { results := [.lit (.bool false)], args := [d1, d2] }
  | _ => none }
def Wire6TwiceWrongFalsely : Prop := wire6TwiceRow.holds Try.pinned (OpenSpec.ofChange wire6TwiceWrong)

/-- 'tenancylaw16.Wire6Short': WHATEVER THE INPUT: true; the input reads as it did. -/
def wire6ShortSpec : ChangeSpec := { name := "wire6Short", fn := fun _ => fun
  | [d1, d2, d3] => { results := [.lit (.bool true)], args := [d1, d2, d3] }
  | _ => none }
def wire6ShortRow : OpenClaim := { program := "ythadapbekmmgpaa", sum := "b3b20b6a8549aeac256b94b4e4a9a331ad920188060805cda9ac4cfd61e007fe", func := "tenancy/tenancylaw16.Wire6Short", spec := "wire6Short", inPlace := ["internal/abi.NoEscape", "internal/bytealg.MakeNoZero"], unfollowed := true, recurses := true, apart := false }
def Wire6ShortSaid : Prop := wire6ShortRow.holds Try.pinned (OpenSpec.ofChange wire6ShortSpec)

/-- ITS FALSE NEIGHBOUR: 'it returns false'. Refute it at one input. -/
def wire6ShortWrong : ChangeSpec := { name := "wire6Short", fn := fun _ => fun
  | [d1, d2, d3] => { results := [.lit (.bool false)], args := [d1, d2, d3] }
  | _ => none }
def Wire6ShortWrongFalsely : Prop := wire6ShortRow.holds Try.pinned (OpenSpec.ofChange wire6ShortWrong)

/- THE SECOND FORM. 'bulk': how many values and letters a reading holds, each counted each time it is reached (what is shared counts as often as it is met; a slice's spare places count too). A statement '..UptoSaid' is the law's where the arguments, and the package variables that the reading takes, are together of bulk at most 1048576: NARROWER than '..Said'. Prove '..Said' where nothing that the law and all that it calls make is longer than what came in: it says more and counts as full. Else prove '..UptoSaid'. A law counts once. -/
mutual
def uptoBulk {H : Type} : DataW H → Nat
  | .lit (.string bytes) => bytes.length + 1
  | .lit _ => 1
  | .nil => 1
  | .ptr d => uptoBulk d + 1
  | .slice elems spare => uptoBulkAll elems + uptoBulkAll spare + 1
  | .agg parts => uptoBulkAll parts + 1
  | .iface _ d => uptoBulk d + 1
  | .map entries => uptoBulkEntries entries + 1
  | .held _ => 1
def uptoBulkAll {H : Type} : List (DataW H) → Nat
  | [] => 0
  | d :: r => uptoBulk d + uptoBulkAll r
def uptoBulkEntries {H : Type} : List (Lit × DataW H) → Nat
  | [] => 0
  | x :: r => uptoBulkEntry x + uptoBulkEntries r
def uptoBulkEntry {H : Type} : Lit × DataW H → Nat
  | (.string bytes, d) => bytes.length + uptoBulk d + 1
  | (_, d) => uptoBulk d + 1
 end
def uptoSmall : (H : Type) → List (DataW H) → Bool := fun _ ds => decide (uptoBulkAll ds ≤ 1048576)
def OpenSpec.upto (s : _root_.Go.ChangeSpec) : _root_.Go.OpenSpec := { _root_.Go.OpenSpec.ofChange s with cond := some uptoSmall }

/-- 'tenancylaw16.Wire6Encodes', WHERE WHAT IT READS IS OF BULK AT MOST 1048576: true; the input reads as it did. -/
def wire6EncodesUptoRow : OpenClaim := { program := "ythadapbekmmgpaa", sum := "b3b20b6a8549aeac256b94b4e4a9a331ad920188060805cda9ac4cfd61e007fe", func := "tenancy/tenancylaw16.Wire6Encodes", spec := "wire6Encodes", inPlace := ["internal/abi.NoEscape", "internal/bytealg.MakeNoZero"], unfollowed := true, recurses := true, apart := false, narrowed := true }
def Wire6EncodesUptoSaid : Prop := wire6EncodesUptoRow.holds Try.pinned (OpenSpec.upto wire6EncodesSpec)

/-- 'tenancylaw16.Wire6Decodes', WHERE WHAT IT READS IS OF BULK AT MOST 1048576: true; the input reads as it did. -/
def wire6DecodesUptoRow : OpenClaim := { program := "ythadapbekmmgpaa", sum := "b3b20b6a8549aeac256b94b4e4a9a331ad920188060805cda9ac4cfd61e007fe", func := "tenancy/tenancylaw16.Wire6Decodes", spec := "wire6Decodes", inPlace := ["internal/abi.NoEscape", "internal/bytealg.MakeNoZero"], unfollowed := true, recurses := true, apart := false, narrowed := true }
def Wire6DecodesUptoSaid : Prop := wire6DecodesUptoRow.holds Try.pinned (OpenSpec.upto wire6DecodesSpec)

/-- 'tenancylaw16.Wire6Back', WHERE WHAT IT READS IS OF BULK AT MOST 1048576: true; the input reads as it did. -/
def wire6BackUptoRow : OpenClaim := { program := "ythadapbekmmgpaa", sum := "b3b20b6a8549aeac256b94b4e4a9a331ad920188060805cda9ac4cfd61e007fe", func := "tenancy/tenancylaw16.Wire6Back", spec := "wire6Back", inPlace := ["internal/abi.NoEscape", "internal/bytealg.MakeNoZero"], unfollowed := true, recurses := true, apart := false, narrowed := true }
def Wire6BackUptoSaid : Prop := wire6BackUptoRow.holds Try.pinned (OpenSpec.upto wire6BackSpec)

/-- 'tenancylaw16.Wire6Order', WHERE WHAT IT READS IS OF BULK AT MOST 1048576: true; the input reads as it did. -/
def wire6OrderUptoRow : OpenClaim := { program := "ythadapbekmmgpaa", sum := "b3b20b6a8549aeac256b94b4e4a9a331ad920188060805cda9ac4cfd61e007fe", func := "tenancy/tenancylaw16.Wire6Order", spec := "wire6Order", inPlace := ["internal/abi.NoEscape", "internal/bytealg.MakeNoZero"], unfollowed := true, recurses := true, apart := false, narrowed := true }
def Wire6OrderUptoSaid : Prop := wire6OrderUptoRow.holds Try.pinned (OpenSpec.upto wire6OrderSpec)

/-- 'tenancylaw16.Wire6Twice', WHERE WHAT IT READS IS OF BULK AT MOST 1048576: true; the input reads as it did. -/
def wire6TwiceUptoRow : OpenClaim := { program := "ythadapbekmmgpaa", sum := "b3b20b6a8549aeac256b94b4e4a9a331ad920188060805cda9ac4cfd61e007fe", func := "tenancy/tenancylaw16.Wire6Twice", spec := "wire6Twice", inPlace := ["internal/abi.NoEscape", "internal/bytealg.MakeNoZero"], unfollowed := true, recurses := true, apart := false, narrowed := true }
def Wire6TwiceUptoSaid : Prop := wire6TwiceUptoRow.holds Try.pinned (OpenSpec.upto wire6TwiceSpec)

/-- 'tenancylaw16.Wire6Short', WHERE WHAT IT READS IS OF BULK AT MOST 1048576: true; the input reads as it did. -/
def wire6ShortUptoRow : OpenClaim := { program := "ythadapbekmmgpaa", sum := "b3b20b6a8549aeac256b94b4e4a9a331ad920188060805cda9ac4cfd61e007fe", func := "tenancy/tenancylaw16.Wire6Short", spec := "wire6Short", inPlace := ["internal/abi.NoEscape", "internal/bytealg.MakeNoZero"], unfollowed := true, recurses := true, apart := false, narrowed := true }
def Wire6ShortUptoSaid : Prop := wire6ShortUptoRow.holds Try.pinned (OpenSpec.upto wire6ShortSpec)

end Rows
end Go.Proofs.Ythadapbekmmgpaa
