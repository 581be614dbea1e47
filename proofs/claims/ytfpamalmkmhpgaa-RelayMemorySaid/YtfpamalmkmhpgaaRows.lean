/-
  No cell of these rows narrows 'for every input' (looked for: loops, veiled, ifaces, maps, wideKeys, modest, calm, conditions, laid).
  DERIVED. THE GIVEN ROWS OF THIS SEAT. 6 by the template 'for every input the law returns true; each argument reads behind the call as it read before'; 0 by the template 'total and deterministic' (their statements: YtfpamalmkmhpgaaTotals.lean).
  GIVEN WITH THE SEED: the statements are not yours to turn. If you find one false, say at which input.
  Laid BY PROGRAM, IN A SANDBOX (cutbox-rows.mjs): the forced cells as the released guide's own fill.sh prints them over the translation 1eef9f018ca3a298… (all of the seat's roots in one cut). By AI agents, Wed Nov 11 2026. No macro, syntax, notation, axiom, sorry.
-/
import Derived.Test.YtfpamalmkmhpgaaChecked
import GoSem.Claim
import GoSem.ClaimJoined
import GoSem.ClaimMapViews
import Derived.JoinedTies
import Derived.KernelRfl
namespace Go.Proofs.Ytfpamalmkmhpgaa
/- THE CELL 'sum', in the pinned program and in every row, IS THE sha256 OF THE DUMP (.gsa) THAT YtfpamalmkmhpgaaProg.lean LOADS. Nothing in Lean hashes anything: it is a label: what it is worth is what the hold of that sum in a sandbox is worth. -/
noncomputable def Try.pinned : Pinned := { name := "ytfpamalmkmhpgaa", sum := "1eef9f018ca3a298db519f4367a52c476c587c7db58d7f970740c71e6703cfec", checked := Try.checked }
namespace Rows
def none {H : Type} : Left H := { results := [], args := [] }

/-- 'tenancylaw17.RelayUnwraps': WHATEVER THE INPUT: true; the input reads as it did. -/
def relayUnwrapsSpec : ChangeSpec := { name := "relayUnwraps", fn := fun _ => fun
  | [d1, d2] => { results := [.lit (.bool true)], args := [d1, d2] }
  | _ => none }
def relayUnwrapsRow : OpenClaim := { program := "ytfpamalmkmhpgaa", sum := "1eef9f018ca3a298db519f4367a52c476c587c7db58d7f970740c71e6703cfec", func := "tenancy/tenancylaw17.RelayUnwraps", spec := "relayUnwraps", inPlace := ["slices.overlaps[tenancy/api.Opt6]", "internal/abi.NoEscape"], unfollowed := true, recurses := true, apart := false }
def RelayUnwrapsSaid : Prop := relayUnwrapsRow.holds Try.pinned (OpenSpec.ofChange relayUnwrapsSpec)

/-- ITS FALSE NEIGHBOUR: 'it returns false'. Refute it at one input. -/
def relayUnwrapsWrong : ChangeSpec := { name := "relayUnwraps", fn := fun _ => fun
  | [d1, d2] => { results := [.lit (.bool false)], args := [d1, d2] }
  | _ => none }
def RelayUnwrapsWrongFalsely : Prop := relayUnwrapsRow.holds Try.pinned (OpenSpec.ofChange relayUnwrapsWrong)

/-- 'tenancylaw17.RelayWraps': WHATEVER THE INPUT: true; the input reads as it did. -/
def relayWrapsSpec : ChangeSpec := { name := "relayWraps", fn := fun _ => fun
  | [d1, d2, d3] => { results := [.lit (.bool true)], args := [d1, d2, d3] }
  | _ => none }
def relayWrapsRow : OpenClaim := { program := "ytfpamalmkmhpgaa", sum := "1eef9f018ca3a298db519f4367a52c476c587c7db58d7f970740c71e6703cfec", func := "tenancy/tenancylaw17.RelayWraps", spec := "relayWraps", inPlace := ["slices.overlaps[tenancy/api.Opt6]", "internal/abi.NoEscape"], unfollowed := true, recurses := true, apart := false }
def RelayWrapsSaid : Prop := relayWrapsRow.holds Try.pinned (OpenSpec.ofChange relayWrapsSpec)

/-- ITS FALSE NEIGHBOUR: 'it returns false'. Refute it at one input. -/
def relayWrapsWrong : ChangeSpec := { name := "relayWraps", fn := fun _ => fun
  | [d1, d2, d3] => { results := [.lit (.bool false)], args := [d1, d2, d3] }
  | _ => none }
def RelayWrapsWrongFalsely : Prop := relayWrapsRow.holds Try.pinned (OpenSpec.ofChange relayWrapsWrong)

/-- 'tenancylaw17.RelayMirror': WHATEVER THE INPUT: true; the input reads as it did. -/
def relayMirrorSpec : ChangeSpec := { name := "relayMirror", fn := fun _ => fun
  | [d1, d2] => { results := [.lit (.bool true)], args := [d1, d2] }
  | _ => none }
def relayMirrorRow : OpenClaim := { program := "ytfpamalmkmhpgaa", sum := "1eef9f018ca3a298db519f4367a52c476c587c7db58d7f970740c71e6703cfec", func := "tenancy/tenancylaw17.RelayMirror", spec := "relayMirror", inPlace := ["slices.overlaps[tenancy/api.Opt6]", "internal/abi.NoEscape"], unfollowed := true, recurses := true, apart := false }
def RelayMirrorSaid : Prop := relayMirrorRow.holds Try.pinned (OpenSpec.ofChange relayMirrorSpec)

/-- ITS FALSE NEIGHBOUR: 'it returns false'. Refute it at one input. -/
def relayMirrorWrong : ChangeSpec := { name := "relayMirror", fn := fun _ => fun
  | [d1, d2] => { results := [.lit (.bool false)], args := [d1, d2] }
  | _ => none }
def RelayMirrorWrongFalsely : Prop := relayMirrorRow.holds Try.pinned (OpenSpec.ofChange relayMirrorWrong)

/-- 'tenancylaw17.RelayBack': WHATEVER THE INPUT: true; the input reads as it did. -/
def relayBackSpec : ChangeSpec := { name := "relayBack", fn := fun _ => fun
  | [d1, d2, d3] => { results := [.lit (.bool true)], args := [d1, d2, d3] }
  | _ => none }
def relayBackRow : OpenClaim := { program := "ytfpamalmkmhpgaa", sum := "1eef9f018ca3a298db519f4367a52c476c587c7db58d7f970740c71e6703cfec", func := "tenancy/tenancylaw17.RelayBack", spec := "relayBack", inPlace := ["slices.overlaps[tenancy/api.Opt6]", "internal/abi.NoEscape"], unfollowed := true, recurses := true, apart := false }
def RelayBackSaid : Prop := relayBackRow.holds Try.pinned (OpenSpec.ofChange relayBackSpec)

/-- ITS FALSE NEIGHBOUR: 'it returns false'. Refute it at one input. -/
def relayBackWrong : ChangeSpec := { name := "relayBack", fn := fun _ => fun
  | [d1, d2, d3] => { results := [.lit (.bool false)], args := [d1, d2, d3] }
  | _ => none }
def RelayBackWrongFalsely : Prop := relayBackRow.holds Try.pinned (OpenSpec.ofChange relayBackWrong)

/-- 'tenancylaw17.RelayIgnores': WHATEVER THE INPUT: true; the input reads as it did. -/
def relayIgnoresSpec : ChangeSpec := { name := "relayIgnores", fn := fun _ => fun
  | [d1, d2, d3] => { results := [.lit (.bool true)], args := [d1, d2, d3] }
  | _ => none }
def relayIgnoresRow : OpenClaim := { program := "ytfpamalmkmhpgaa", sum := "1eef9f018ca3a298db519f4367a52c476c587c7db58d7f970740c71e6703cfec", func := "tenancy/tenancylaw17.RelayIgnores", spec := "relayIgnores", inPlace := ["slices.overlaps[tenancy/api.Opt6]", "internal/abi.NoEscape"], unfollowed := true, recurses := true, apart := false }
def RelayIgnoresSaid : Prop := relayIgnoresRow.holds Try.pinned (OpenSpec.ofChange relayIgnoresSpec)

/-- ITS FALSE NEIGHBOUR: 'it returns false'. Refute it at one input. -/
def relayIgnoresWrong : ChangeSpec := { name := "relayIgnores", fn := fun _ => fun
  | [d1, d2, d3] => { results := [.lit (.bool false)], args := [d1, d2, d3] }
  | _ => none }
def RelayIgnoresWrongFalsely : Prop := relayIgnoresRow.holds Try.pinned (OpenSpec.ofChange relayIgnoresWrong)

/-- 'tenancylaw17.RelayMemory': WHATEVER THE INPUT: true; the input reads as it did. -/
def relayMemorySpec : ChangeSpec := { name := "relayMemory", fn := fun _ => fun
  | [d1, d2] => { results := [.lit (.bool true)], args := [d1, d2] }
  | _ => none }
def relayMemoryRow : OpenClaim := { program := "ytfpamalmkmhpgaa", sum := "1eef9f018ca3a298db519f4367a52c476c587c7db58d7f970740c71e6703cfec", func := "tenancy/tenancylaw17.RelayMemory", spec := "relayMemory", inPlace := ["slices.overlaps[tenancy/api.Opt6]", "internal/abi.NoEscape"], unfollowed := true, recurses := true, apart := false }
def RelayMemorySaid : Prop := relayMemoryRow.holds Try.pinned (OpenSpec.ofChange relayMemorySpec)

/-- ITS FALSE NEIGHBOUR: 'it returns false'. Refute it at one input. -/
def relayMemoryWrong : ChangeSpec := { name := "relayMemory", fn := fun _ => fun
  | [d1, d2] => { results := [.lit (.bool false)], args := [d1, d2] }
  | _ => none }
def RelayMemoryWrongFalsely : Prop := relayMemoryRow.holds Try.pinned (OpenSpec.ofChange relayMemoryWrong)

/- THE SECOND FORM. 'bulk': how many values and letters a reading holds, each counted each time it is reached (what is shared counts as often as it is met; a slice's spare places count too). A statement '..UptoSaid' is the law's where the arguments, and the package variables that the reading takes, are together of bulk at most 1048576: NARROWER than '..Said'. Prove '..Said' where nothing that the law and all that it calls make is longer than what came in: it says more and counts as full. Else prove '..UptoSaid'. A law counts once. -/
mutual
def uptoBulk {H : Type} : DataW H → Nat
  | .lit (.string bytes) => bytes.length + 1
  | .lit _ => 1
  | .nil => 1
  | .ptr d => uptoBulk d + 1
  | .slice elems spare => uptoBulkAll elems + uptoBulkAll spare + 1
  | .agg parts => uptoBulkAll parts + 1
  | .iface _ d => uptoBulk d + 1
  | .map entries => uptoBulkEntries entries + 1
  | .held _ => 1
def uptoBulkAll {H : Type} : List (DataW H) → Nat
  | [] => 0
  | d :: r => uptoBulk d + uptoBulkAll r
def uptoBulkEntries {H : Type} : List (Lit × DataW H) → Nat
  | [] => 0
  | x :: r => uptoBulkEntry x + uptoBulkEntries r
def uptoBulkEntry {H : Type} : Lit × DataW H → Nat
  | (.string bytes, d) => bytes.length + uptoBulk d + 1
  | (_, d) => uptoBulk d + 1
 end
def uptoSmall : (H : Type) → List (DataW H) → Bool := fun _ ds => decide (uptoBulkAll ds ≤ 1048576)
def OpenSpec.upto (s : _root_.Go.ChangeSpec) : _root_.Go.OpenSpec := { _root_.Go.OpenSpec.ofChange s with cond := some uptoSmall }

/-- 'tenancylaw17.RelayUnwraps', WHERE WHAT IT READS IS OF BULK AT MOST 1048576: true; the input reads as it did. -/
def relayUnwrapsUptoRow : OpenClaim := { program := "ytfpamalmkmhpgaa", sum := "1eef9f018ca3a298db519f4367a52c476c587c7db58d7f970740c71e6703cfec", func := "tenancy/tenancylaw17.RelayUnwraps", spec := "relayUnwraps", inPlace := ["slices.overlaps[tenancy/api.Opt6]", "internal/abi.NoEscape"], unfollowed := true, recurses := true, apart := false, narrowed := true }
def RelayUnwrapsUptoSaid : Prop := relayUnwrapsUptoRow.holds Try.pinned (OpenSpec.upto relayUnwrapsSpec)

/-- 'tenancylaw17.RelayWraps', WHERE WHAT IT READS IS OF BULK AT MOST 1048576: true; the input reads as it did. -/
def relayWrapsUptoRow : OpenClaim := { program := "ytfpamalmkmhpgaa", sum := "1eef9f018ca3a298db519f4367a52c476c587c7db58d7f970740c71e6703cfec", func := "tenancy/tenancylaw17.RelayWraps", spec := "relayWraps", inPlace := ["slices.overlaps[tenancy/api.Opt6]", "internal/abi.NoEscape"], unfollowed := true, recurses := true, apart := false, narrowed := true }
def RelayWrapsUptoSaid : Prop := relayWrapsUptoRow.holds Try.pinned (OpenSpec.upto relayWrapsSpec)

/-- 'tenancylaw17.RelayMirror', WHERE WHAT IT READS IS OF BULK AT MOST 1048576: true; the input reads as it did. -/
def relayMirrorUptoRow : OpenClaim := { program := "ytfpamalmkmhpgaa", sum := "1eef9f018ca3a298db519f4367a52c476c587c7db58d7f970740c71e6703cfec", func := "tenancy/tenancylaw17.RelayMirror", spec := "relayMirror", inPlace := ["slices.overlaps[tenancy/api.Opt6]", "internal/abi.NoEscape"], unfollowed := true, recurses := true, apart := false, narrowed := true }
def RelayMirrorUptoSaid : Prop := relayMirrorUptoRow.holds Try.pinned (OpenSpec.upto relayMirrorSpec)

/-- 'tenancylaw17.RelayBack', WHERE WHAT IT READS IS OF BULK AT MOST 1048576: true; the input reads as it did. -/
def relayBackUptoRow : OpenClaim := { program := "ytfpamalmkmhpgaa", sum := "1eef9f018ca3a298db519f4367a52c476c587c7db58d7f970740c71e6703cfec", func := "tenancy/tenancylaw17.RelayBack", spec := "relayBack", inPlace := ["slices.overlaps[tenancy/api.Opt6]", "internal/abi.NoEscape"], unfollowed := true, recurses := true, apart := false, narrowed := true }
def RelayBackUptoSaid : Prop := relayBackUptoRow.holds Try.pinned (OpenSpec.upto relayBackSpec)

/-- 'tenancylaw17.RelayIgnores', WHERE WHAT IT READS IS OF BULK AT MOST 1048576: true; the input reads as it did. -/
def relayIgnoresUptoRow : OpenClaim := { program := "ytfpamalmkmhpgaa", sum := "1eef9f018ca3a298db519f4367a52c476c587c7db58d7f970740c71e6703cfec", func := "tenancy/tenancylaw17.RelayIgnores", spec := "relayIgnores", inPlace := ["slices.overlaps[tenancy/api.Opt6]", "internal/abi.NoEscape"], unfollowed := true, recurses := true, apart := false, narrowed := true }
def RelayIgnoresUptoSaid : Prop := relayIgnoresUptoRow.holds Try.pinned (OpenSpec.upto relayIgnoresSpec)

/-- 'tenancylaw17.RelayMemory', WHERE WHAT IT READS IS OF BULK AT MOST 1048576: true; the input reads as it did. -/
def relayMemoryUptoRow : OpenClaim := { program := "ytfpamalmkmhpgaa", sum := "1eef9f018ca3a298db519f4367a52c476c587c7db58d7f970740c71e6703cfec", func := "tenancy/tenancylaw17.RelayMemory", spec := "relayMemory", inPlace := ["slices.overlaps[tenancy/api.Opt6]", "internal/abi.NoEscape"], unfollowed := true, recurses := true, apart := false, narrowed := true }
def RelayMemoryUptoSaid : Prop := relayMemoryUptoRow.holds Try.pinned (OpenSpec.upto relayMemorySpec)

end Rows
end Go.Proofs.Ytfpamalmkmhpgaa
