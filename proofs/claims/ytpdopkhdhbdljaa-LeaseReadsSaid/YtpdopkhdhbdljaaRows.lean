/-
  No cell of these rows narrows 'for every input' (looked for: loops, veiled, ifaces, maps, wideKeys, modest, calm, conditions, laid).
  DERIVED. THE GIVEN ROWS OF THIS SEAT. 6 by the template 'for every input the law returns true; each argument reads behind the call as it read before'; 0 by the template 'total and deterministic' (their statements: YtpdopkhdhbdljaaTotals.lean).
  GIVEN WITH THE SEED: the statements are not yours to turn. If you find one false, say at which input.
  Laid BY PROGRAM, IN A SANDBOX (cutbox-rows.mjs): the forced cells as the released guide's own fill.sh prints them over the translation 5c0d5089220b122c… (all of the seat's roots in one cut). By AI agents, Wed Nov 11 2026. No macro, syntax, notation, axiom, sorry.
-/
import Derived.Test.YtpdopkhdhbdljaaChecked
import GoSem.Claim
import GoSem.ClaimJoined
import GoSem.ClaimMapViews
import Derived.JoinedTies
import Derived.KernelRfl
namespace Go.Proofs.Ytpdopkhdhbdljaa
/- THE CELL 'sum', in the pinned program and in every row, IS THE sha256 OF THE DUMP (.gsa) THAT YtpdopkhdhbdljaaProg.lean LOADS. Nothing in Lean hashes anything: it is a label: what it is worth is what the hold of that sum in a sandbox is worth. -/
noncomputable def Try.pinned : Pinned := { name := "ytpdopkhdhbdljaa", sum := "5c0d5089220b122cbbed16c6efd29dab47b5a12e98172f3adf781e3d1fefe33d", checked := Try.checked }
namespace Rows
def none {H : Type} : Left H := { results := [], args := [] }

/-- 'tenancylaw08.LeaseRight': WHATEVER THE INPUT: true; the input reads as it did. -/
def leaseRightSpec : ChangeSpec := { name := "leaseRight", fn := fun _ => fun
  | [d1, d2] => { results := [.lit (.bool true)], args := [d1, d2] }
  | _ => none }
def leaseRightRow : OpenClaim := { program := "ytpdopkhdhbdljaa", sum := "5c0d5089220b122cbbed16c6efd29dab47b5a12e98172f3adf781e3d1fefe33d", func := "tenancy/tenancylaw08.LeaseRight", spec := "leaseRight", inPlace := ["internal/abi.NoEscape"], unfollowed := true, recurses := true, apart := false }
def LeaseRightSaid : Prop := leaseRightRow.holds Try.pinned (OpenSpec.ofChange leaseRightSpec)

/-- ITS FALSE NEIGHBOUR: 'it returns false'. Refute it at one input. -/
def leaseRightWrong : ChangeSpec := { name := "leaseRight", fn := fun _ => fun
  | [d1, d2] => { results := [.lit (.bool false)], args := [d1, d2] }
  | _ => none }
def LeaseRightWrongFalsely : Prop := leaseRightRow.holds Try.pinned (OpenSpec.ofChange leaseRightWrong)

/-- 'tenancylaw08.LeaseBytes': WHATEVER THE INPUT: true; the input reads as it did. -/
def leaseBytesSpec : ChangeSpec := { name := "leaseBytes", fn := fun _ => fun
  | [d] => { results := [.lit (.bool true)], args := [d] }
  | _ => none }
def leaseBytesRow : OpenClaim := { program := "ytpdopkhdhbdljaa", sum := "5c0d5089220b122cbbed16c6efd29dab47b5a12e98172f3adf781e3d1fefe33d", func := "tenancy/tenancylaw08.LeaseBytes", spec := "leaseBytes", inPlace := ["internal/abi.NoEscape"], unfollowed := true, recurses := true, apart := false }
def LeaseBytesSaid : Prop := leaseBytesRow.holds Try.pinned (OpenSpec.ofChange leaseBytesSpec)

/-- ITS FALSE NEIGHBOUR: 'it returns false'. Refute it at one input. -/
def leaseBytesWrong : ChangeSpec := { name := "leaseBytes", fn := fun _ => fun
  | [d] => { results := [.lit (.bool false)], args := [d] }
  | _ => none }
def LeaseBytesWrongFalsely : Prop := leaseBytesRow.holds Try.pinned (OpenSpec.ofChange leaseBytesWrong)

/-- 'tenancylaw08.LeaseReads': WHATEVER THE INPUT: true; the input reads as it did. -/
def leaseReadsSpec : ChangeSpec := { name := "leaseReads", fn := fun _ => fun
  | [d] => { results := [.lit (.bool true)], args := [d] }
  | _ => none }
def leaseReadsRow : OpenClaim := { program := "ytpdopkhdhbdljaa", sum := "5c0d5089220b122cbbed16c6efd29dab47b5a12e98172f3adf781e3d1fefe33d", func := "tenancy/tenancylaw08.LeaseReads", spec := "leaseReads", inPlace := ["internal/abi.NoEscape"], unfollowed := true, recurses := true, apart := false }
def LeaseReadsSaid : Prop := leaseReadsRow.holds Try.pinned (OpenSpec.ofChange leaseReadsSpec)

/-- ITS FALSE NEIGHBOUR: 'it returns false'. Refute it at one input. -/
def leaseReadsWrong : ChangeSpec := { name := "leaseReads", fn := fun _ => fun
  | [d] => { results := [.lit (.bool false)], args := [d] }
  | _ => none }
def LeaseReadsWrongFalsely : Prop := leaseReadsRow.holds Try.pinned (OpenSpec.ofChange leaseReadsWrong)

/-- 'tenancylaw08.LeaseForm': WHATEVER THE INPUT: true; the input reads as it did. -/
def leaseFormSpec : ChangeSpec := { name := "leaseForm", fn := fun _ => fun
  | [d1, d2] => { results := [.lit (.bool true)], args := [d1, d2] }
  | _ => none }
def leaseFormRow : OpenClaim := { program := "ytpdopkhdhbdljaa", sum := "5c0d5089220b122cbbed16c6efd29dab47b5a12e98172f3adf781e3d1fefe33d", func := "tenancy/tenancylaw08.LeaseForm", spec := "leaseForm", inPlace := ["internal/abi.NoEscape"], unfollowed := true, recurses := true, apart := false }
def LeaseFormSaid : Prop := leaseFormRow.holds Try.pinned (OpenSpec.ofChange leaseFormSpec)

/-- ITS FALSE NEIGHBOUR: 'it returns false'. Refute it at one input. -/
def leaseFormWrong : ChangeSpec := { name := "leaseForm", fn := fun _ => fun
  | [d1, d2] => { results := [.lit (.bool false)], args := [d1, d2] }
  | _ => none }
def LeaseFormWrongFalsely : Prop := leaseFormRow.holds Try.pinned (OpenSpec.ofChange leaseFormWrong)

/-- 'tenancylaw08.LeaseMeets': WHATEVER THE INPUT: true; the input reads as it did. -/
def leaseMeetsSpec : ChangeSpec := { name := "leaseMeets", fn := fun _ => fun
  | [d1, d2] => { results := [.lit (.bool true)], args := [d1, d2] }
  | _ => none }
def leaseMeetsRow : OpenClaim := { program := "ytpdopkhdhbdljaa", sum := "5c0d5089220b122cbbed16c6efd29dab47b5a12e98172f3adf781e3d1fefe33d", func := "tenancy/tenancylaw08.LeaseMeets", spec := "leaseMeets", inPlace := ["internal/abi.NoEscape"], unfollowed := true, recurses := true, apart := false }
def LeaseMeetsSaid : Prop := leaseMeetsRow.holds Try.pinned (OpenSpec.ofChange leaseMeetsSpec)

/-- ITS FALSE NEIGHBOUR: 'it returns false'. Refute it at one input. -/
def leaseMeetsWrong : ChangeSpec := { name := "leaseMeets", fn := fun _ => fun
  | [d1, d2] => { results := [.lit (.bool false)], args := [d1, d2] }
  | _ => none }
def LeaseMeetsWrongFalsely : Prop := leaseMeetsRow.holds Try.pinned (OpenSpec.ofChange leaseMeetsWrong)

/-- 'tenancylaw08.LeaseOrder': WHATEVER THE INPUT: true; the input reads as it did. -/
def leaseOrderSpec : ChangeSpec := { name := "leaseOrder", fn := fun _ => fun
  | [d1, d2, d3] => { results := [.lit (.bool true)], args := [d1, d2, d3] }
  | _ => none }
def leaseOrderRow : OpenClaim := { program := "ytpdopkhdhbdljaa", sum := "5c0d5089220b122cbbed16c6efd29dab47b5a12e98172f3adf781e3d1fefe33d", func := "tenancy/tenancylaw08.LeaseOrder", spec := "leaseOrder", inPlace := ["internal/abi.NoEscape"], unfollowed := true, recurses := true, apart := false }
def LeaseOrderSaid : Prop := leaseOrderRow.holds Try.pinned (OpenSpec.ofChange leaseOrderSpec)

/-- ITS FALSE NEIGHBOUR: 'it returns false'. Refute it at one input. -/
def leaseOrderWrong : ChangeSpec := { name := "leaseOrder", fn := fun _ => fun
  | [d1, d2, d3] => { results := [.lit (.bool false)], args := [d1, d2, d3] }
  | _ => none }
def LeaseOrderWrongFalsely : Prop := leaseOrderRow.holds Try.pinned (OpenSpec.ofChange leaseOrderWrong)

/- THE SECOND FORM. 'bulk': how many values and letters a reading holds, each counted each time it is reached (what is shared counts as often as it is met; a slice's spare places count too). A statement '..UptoSaid' is the law's where the arguments, and the package variables that the reading takes, are together of bulk at most 1048576: NARROWER than '..Said'. Prove '..Said' where nothing that the law and all that it calls make is longer than what came in: it says more and counts as full. Else prove '..UptoSaid'. A law counts once. -/
mutual
def uptoBulk {H : Type} : DataW H → Nat
  | .lit (.string bytes) => bytes.length + 1
  | .lit _ => 1
  | .nil => 1
  | .ptr d => uptoBulk d + 1
  | .slice elems spare => uptoBulkAll elems + uptoBulkAll spare + 1
  | .agg parts => uptoBulkAll parts + 1
  | .iface _ d => uptoBulk d + 1
  | .map entries => uptoBulkEntries entries + 1
  | .held _ => 1
def uptoBulkAll {H : Type} : List (DataW H) → Nat
  | [] => 0
  | d :: r => uptoBulk d + uptoBulkAll r
def uptoBulkEntries {H : Type} : List (Lit × DataW H) → Nat
  | [] => 0
  | x :: r => uptoBulkEntry x + uptoBulkEntries r
def uptoBulkEntry {H : Type} : Lit × DataW H → Nat
  | (.string bytes, d) => bytes.length + uptoBulk d + 1
  | (_, d) => uptoBulk d + 1
 end
def uptoSmall : (H : Type) → List (DataW H) → Bool := fun _ ds => decide (uptoBulkAll ds ≤ 1048576)
def OpenSpec.upto (s : _root_.Go.ChangeSpec) : _root_.Go.OpenSpec := { _root_.Go.OpenSpec.ofChange s with cond := some uptoSmall }

/-- 'tenancylaw08.LeaseRight', WHERE WHAT IT READS IS OF BULK AT MOST 1048576: true; the input reads as it did. -/
def leaseRightUptoRow : OpenClaim := { program := "ytpdopkhdhbdljaa", sum := "5c0d5089220b122cbbed16c6efd29dab47b5a12e98172f3adf781e3d1fefe33d", func := "tenancy/tenancylaw08.LeaseRight", spec := "leaseRight", inPlace := ["internal/abi.NoEscape"], unfollowed := true, recurses := true, apart := false, narrowed := true }
def LeaseRightUptoSaid : Prop := leaseRightUptoRow.holds Try.pinned (OpenSpec.upto leaseRightSpec)

/-- 'tenancylaw08.LeaseBytes', WHERE WHAT IT READS IS OF BULK AT MOST 1048576: true; the input reads as it did. -/
def leaseBytesUptoRow : OpenClaim := { program := "ytpdopkhdhbdljaa", sum := "5c0d5089220b122cbbed16c6efd29dab47b5a12e98172f3adf781e3d1fefe33d", func := "tenancy/tenancylaw08.LeaseBytes", spec := "leaseBytes", inPlace := ["internal/abi.NoEscape"], unfollowed := true, recurses := true, apart := false, narrowed := true }
def LeaseBytesUptoSaid : Prop := leaseBytesUptoRow.holds Try.pinned (OpenSpec.upto leaseBytesSpec)

/-- 'tenancylaw08.LeaseReads', WHERE WHAT IT READS IS OF BULK AT MOST 1048576: true; the input reads as it did. -/
def leaseReadsUptoRow : OpenClaim := { program := "ytpdopkhdhbdljaa", sum := "5c0d5089220b122cbbed16c6efd29dab47b5a12e98172f3adf781e3d1fefe33d", func := "tenancy/tenancylaw08.LeaseReads", spec := "leaseReads", inPlace := ["internal/abi.NoEscape"], unfollowed := true, recurses := true, apart := false, narrowed := true }
def LeaseReadsUptoSaid : Prop := leaseReadsUptoRow.holds Try.pinned (OpenSpec.upto leaseReadsSpec)

/-- 'tenancylaw08.LeaseForm', WHERE WHAT IT READS IS OF BULK AT MOST 1048576: true; the input reads as it did. -/
def leaseFormUptoRow : OpenClaim := { program := "ytpdopkhdhbdljaa", sum := "5c0d5089220b122cbbed16c6efd29dab47b5a12e98172f3adf781e3d1fefe33d", func := "tenancy/tenancylaw08.LeaseForm", spec := "leaseForm", inPlace := ["internal/abi.NoEscape"], unfollowed := true, recurses := true, apart := false, narrowed := true }
def LeaseFormUptoSaid : Prop := leaseFormUptoRow.holds Try.pinned (OpenSpec.upto leaseFormSpec)

/-- 'tenancylaw08.LeaseMeets', WHERE WHAT IT READS IS OF BULK AT MOST 1048576: true; the input reads as it did. -/
def leaseMeetsUptoRow : OpenClaim := { program := "ytpdopkhdhbdljaa", sum := "5c0d5089220b122cbbed16c6efd29dab47b5a12e98172f3adf781e3d1fefe33d", func := "tenancy/tenancylaw08.LeaseMeets", spec := "leaseMeets", inPlace := ["internal/abi.NoEscape"], unfollowed := true, recurses := true, apart := false, narrowed := true }
def LeaseMeetsUptoSaid : Prop := leaseMeetsUptoRow.holds Try.pinned (OpenSpec.upto leaseMeetsSpec)

/-- 'tenancylaw08.LeaseOrder', WHERE WHAT IT READS IS OF BULK AT MOST 1048576: true; the input reads as it did. -/
def leaseOrderUptoRow : OpenClaim := { program := "ytpdopkhdhbdljaa", sum := "5c0d5089220b122cbbed16c6efd29dab47b5a12e98172f3adf781e3d1fefe33d", func := "tenancy/tenancylaw08.LeaseOrder", spec := "leaseOrder", inPlace := ["internal/abi.NoEscape"], unfollowed := true, recurses := true, apart := false, narrowed := true }
def LeaseOrderUptoSaid : Prop := leaseOrderUptoRow.holds Try.pinned (OpenSpec.upto leaseOrderSpec)

end Rows
end Go.Proofs.Ytpdopkhdhbdljaa
