/-
  No cell of these rows narrows 'for every input' (looked for: loops, veiled, ifaces, maps, wideKeys, modest, calm, conditions, laid).
  DERIVED. THE GIVEN ROWS OF THIS SEAT. 5 by the template 'for every input the law returns true; each argument reads behind the call as it read before'; 0 by the template 'total and deterministic' (their statements: YtphmbndnejhbfaaTotals.lean).
  GIVEN WITH THE SEED: the statements are not yours to turn. If you find one false, say at which input.
  Laid BY PROGRAM, IN A SANDBOX (cutbox-rows.mjs): the forced cells as the released guide's own fill.sh prints them over the translation 7f54401dbdf15971… (all of the seat's roots in one cut). By AI agents, Wed Nov 11 2026. No macro, syntax, notation, axiom, sorry.
-/
import Derived.Test.YtphmbndnejhbfaaChecked
import GoSem.Claim
import GoSem.ClaimJoined
import GoSem.ClaimMapViews
import Derived.JoinedTies
import Derived.KernelRfl
namespace Go.Proofs.Ytphmbndnejhbfaa
/- THE CELL 'sum', in the pinned program and in every row, IS THE sha256 OF THE DUMP (.gsa) THAT YtphmbndnejhbfaaProg.lean LOADS. Nothing in Lean hashes anything: it is a label: what it is worth is what the hold of that sum in a sandbox is worth. -/
noncomputable def Try.pinned : Pinned := { name := "ytphmbndnejhbfaa", sum := "7f54401dbdf15971fb91e5a75832d5116cdeac9daed8c2aaf1a03c3c7520ba1f", checked := Try.checked }
namespace Rows
def none {H : Type} : Left H := { results := [], args := [] }

/-- 'tenancylaw13.Opt4Parses': WHATEVER THE INPUT: true; the input reads as it did. -/
def opt4ParsesSpec : ChangeSpec := { name := "opt4Parses", fn := fun _ => fun
  | [d] => { results := [.lit (.bool true)], args := [d] }
  | _ => none }
def opt4ParsesRow : OpenClaim := { program := "ytphmbndnejhbfaa", sum := "7f54401dbdf15971fb91e5a75832d5116cdeac9daed8c2aaf1a03c3c7520ba1f", func := "tenancy/tenancylaw13.Opt4Parses", spec := "opt4Parses", unfollowed := true, recurses := true, apart := false }
def Opt4ParsesSaid : Prop := opt4ParsesRow.holds Try.pinned (OpenSpec.ofChange opt4ParsesSpec)

/-- ITS FALSE NEIGHBOUR: 'it returns false'. Refute it at one input. -/
def opt4ParsesWrong : ChangeSpec := { name := "opt4Parses", fn := fun _ => fun
  | [d] => { results := [.lit (.bool false)], args := [d] }
  | _ => none }
def Opt4ParsesWrongFalsely : Prop := opt4ParsesRow.holds Try.pinned (OpenSpec.ofChange opt4ParsesWrong)

/-- 'tenancylaw13.Opt4Emits': WHATEVER THE INPUT: true; the input reads as it did. -/
def opt4EmitsSpec : ChangeSpec := { name := "opt4Emits", fn := fun _ => fun
  | [d1, d2] => { results := [.lit (.bool true)], args := [d1, d2] }
  | _ => none }
def opt4EmitsRow : OpenClaim := { program := "ytphmbndnejhbfaa", sum := "7f54401dbdf15971fb91e5a75832d5116cdeac9daed8c2aaf1a03c3c7520ba1f", func := "tenancy/tenancylaw13.Opt4Emits", spec := "opt4Emits", unfollowed := true, recurses := true, apart := false }
def Opt4EmitsSaid : Prop := opt4EmitsRow.holds Try.pinned (OpenSpec.ofChange opt4EmitsSpec)

/-- ITS FALSE NEIGHBOUR: 'it returns false'. Refute it at one input. -/
def opt4EmitsWrong : ChangeSpec := { name := "opt4Emits", fn := fun _ => fun
  | [d1, d2] => { results := [.lit (.bool false)], args := [d1, d2] }
  | _ => none }
def Opt4EmitsWrongFalsely : Prop := opt4EmitsRow.holds Try.pinned (OpenSpec.ofChange opt4EmitsWrong)

/-- 'tenancylaw13.Opt4Back': WHATEVER THE INPUT: true; the input reads as it did. -/
def opt4BackSpec : ChangeSpec := { name := "opt4Back", fn := fun _ => fun
  | [d1, d2, d3] => { results := [.lit (.bool true)], args := [d1, d2, d3] }
  | _ => none }
def opt4BackRow : OpenClaim := { program := "ytphmbndnejhbfaa", sum := "7f54401dbdf15971fb91e5a75832d5116cdeac9daed8c2aaf1a03c3c7520ba1f", func := "tenancy/tenancylaw13.Opt4Back", spec := "opt4Back", unfollowed := true, recurses := true, apart := false }
def Opt4BackSaid : Prop := opt4BackRow.holds Try.pinned (OpenSpec.ofChange opt4BackSpec)

/-- ITS FALSE NEIGHBOUR: 'it returns false'. Refute it at one input. -/
def opt4BackWrong : ChangeSpec := { name := "opt4Back", fn := fun _ => fun
  | [d1, d2, d3] => { results := [.lit (.bool false)], args := [d1, d2, d3] }
  | _ => none }
def Opt4BackWrongFalsely : Prop := opt4BackRow.holds Try.pinned (OpenSpec.ofChange opt4BackWrong)

/-- 'tenancylaw13.Opt4Pieces': WHATEVER THE INPUT: true; the input reads as it did. -/
def opt4PiecesSpec : ChangeSpec := { name := "opt4Pieces", fn := fun _ => fun
  | [d1, d2, d3] => { results := [.lit (.bool true)], args := [d1, d2, d3] }
  | _ => none }
def opt4PiecesRow : OpenClaim := { program := "ytphmbndnejhbfaa", sum := "7f54401dbdf15971fb91e5a75832d5116cdeac9daed8c2aaf1a03c3c7520ba1f", func := "tenancy/tenancylaw13.Opt4Pieces", spec := "opt4Pieces", unfollowed := true, recurses := true, apart := false }
def Opt4PiecesSaid : Prop := opt4PiecesRow.holds Try.pinned (OpenSpec.ofChange opt4PiecesSpec)

/-- ITS FALSE NEIGHBOUR: 'it returns false'. Refute it at one input. -/
def opt4PiecesWrong : ChangeSpec := { name := "opt4Pieces", fn := fun _ => fun
  | [d1, d2, d3] => { results := [.lit (.bool false)], args := [d1, d2, d3] }
  | _ => none }
def Opt4PiecesWrongFalsely : Prop := opt4PiecesRow.holds Try.pinned (OpenSpec.ofChange opt4PiecesWrong)

/-- 'tenancylaw13.Opt4Memory': WHATEVER THE INPUT: true; the input reads as it did. -/
def opt4MemorySpec : ChangeSpec := { name := "opt4Memory", fn := fun _ => fun
  | [d1, d2] => { results := [.lit (.bool true)], args := [d1, d2] }
  | _ => none }
def opt4MemoryRow : OpenClaim := { program := "ytphmbndnejhbfaa", sum := "7f54401dbdf15971fb91e5a75832d5116cdeac9daed8c2aaf1a03c3c7520ba1f", func := "tenancy/tenancylaw13.Opt4Memory", spec := "opt4Memory", unfollowed := true, recurses := true, apart := false }
def Opt4MemorySaid : Prop := opt4MemoryRow.holds Try.pinned (OpenSpec.ofChange opt4MemorySpec)

/-- ITS FALSE NEIGHBOUR: 'it returns false'. Refute it at one input. -/
def opt4MemoryWrong : ChangeSpec := { name := "opt4Memory", fn := fun _ => fun
  | [d1, d2] => { results := [.lit (.bool false)], args := [d1, d2] }
  | _ => none }
def Opt4MemoryWrongFalsely : Prop := opt4MemoryRow.holds Try.pinned (OpenSpec.ofChange opt4MemoryWrong)

/- THE SECOND FORM. 'bulk': how many values and letters a reading holds, each counted each time it is reached (what is shared counts as often as it is met; a slice's spare places count too). A statement '..UptoSaid' is the law's where the arguments, and the package variables that the reading takes, are together of bulk at most 1048576: NARROWER than '..Said'. Prove '..Said' where nothing that the law and all that it calls make is longer than what came in: it says more and counts as full. Else prove '..UptoSaid'. A law counts once. -/
mutual
def uptoBulk {H : Type} : DataW H → Nat
  | .lit (.string bytes) => bytes.length + 1
  | .lit _ => 1
  | .nil => 1
  | .ptr d => uptoBulk d + 1
  | .slice elems spare => uptoBulkAll elems + uptoBulkAll spare + 1
  | .agg parts => uptoBulkAll parts + 1
  | .iface _ d => uptoBulk d + 1
  | .map entries => uptoBulkEntries entries + 1
  | .held _ => 1
def uptoBulkAll {H : Type} : List (DataW H) → Nat
  | [] => 0
  | d :: r => uptoBulk d + uptoBulkAll r
def uptoBulkEntries {H : Type} : List (Lit × DataW H) → Nat
  | [] => 0
  | x :: r => uptoBulkEntry x + uptoBulkEntries r
def uptoBulkEntry {H : Type} : Lit × DataW H → Nat
  | (.string bytes, d) => bytes.length + uptoBulk d + 1
  | (_, d) => uptoBulk d + 1
 end
def uptoSmall : (H : Type) → List (DataW H) → Bool := fun _ ds => decide (uptoBulkAll ds ≤ 1048576)
def OpenSpec.upto (s : _root_.Go.ChangeSpec) : _root_.Go.OpenSpec := { _root_.Go.OpenSpec.ofChange s with cond := some uptoSmall }

/-- 'tenancylaw13.Opt4Parses', WHERE WHAT IT READS IS OF BULK AT MOST 1048576: true; the input reads as it did. -/
def opt4ParsesUptoRow : OpenClaim := { program := "ytphmbndnejhbfaa", sum := "7f54401dbdf15971fb91e5a75832d5116cdeac9daed8c2aaf1a03c3c7520ba1f", func := "tenancy/tenancylaw13.Opt4Parses", spec := "opt4Parses", unfollowed := true, recurses := true, apart := false, narrowed := true }
def Opt4ParsesUptoSaid : Prop := opt4ParsesUptoRow.holds Try.pinned (OpenSpec.upto opt4ParsesSpec)

/-- 'tenancylaw13.Opt4Emits', WHERE WHAT IT READS IS OF BULK AT MOST 1048576: true; the input reads as it did. -/
def opt4EmitsUptoRow : OpenClaim := { program := "ytphmbndnejhbfaa", sum := "7f54401dbdf15971fb91e5a75832d5116cdeac9daed8c2aaf1a03c3c7520ba1f", func := "tenancy/tenancylaw13.Opt4Emits", spec := "opt4Emits", unfollowed := true, recurses := true, apart := false, narrowed := true }
def Opt4EmitsUptoSaid : Prop := opt4EmitsUptoRow.holds Try.pinned (OpenSpec.upto opt4EmitsSpec)

/-- 'tenancylaw13.Opt4Back', WHERE WHAT IT READS IS OF BULK AT MOST 1048576: true; the input reads as it did. -/
def opt4BackUptoRow : OpenClaim := { program := "ytphmbndnejhbfaa", sum := "7f54401dbdf15971fb91e5a75832d5116cdeac9daed8c2aaf1a03c3c7520ba1f", func := "tenancy/tenancylaw13.Opt4Back", spec := "opt4Back", unfollowed := true, recurses := true, apart := false, narrowed := true }
def Opt4BackUptoSaid : Prop := opt4BackUptoRow.holds Try.pinned (OpenSpec.upto opt4BackSpec)

/-- 'tenancylaw13.Opt4Pieces', WHERE WHAT IT READS IS OF BULK AT MOST 1048576: true; the input reads as it did. -/
def opt4PiecesUptoRow : OpenClaim := { program := "ytphmbndnejhbfaa", sum := "7f54401dbdf15971fb91e5a75832d5116cdeac9daed8c2aaf1a03c3c7520ba1f", func := "tenancy/tenancylaw13.Opt4Pieces", spec := "opt4Pieces", unfollowed := true, recurses := true, apart := false, narrowed := true }
def Opt4PiecesUptoSaid : Prop := opt4PiecesUptoRow.holds Try.pinned (OpenSpec.upto opt4PiecesSpec)

/-- 'tenancylaw13.Opt4Memory', WHERE WHAT IT READS IS OF BULK AT MOST 1048576: true; the input reads as it did. -/
def opt4MemoryUptoRow : OpenClaim := { program := "ytphmbndnejhbfaa", sum := "7f54401dbdf15971fb91e5a75832d5116cdeac9daed8c2aaf1a03c3c7520ba1f", func := "tenancy/tenancylaw13.Opt4Memory", spec := "opt4Memory", unfollowed := true, recurses := true, apart := false, narrowed := true }
def Opt4MemoryUptoSaid : Prop := opt4MemoryUptoRow.holds Try.pinned (OpenSpec.upto opt4MemorySpec)

end Rows
end Go.Proofs.Ytphmbndnejhbfaa
