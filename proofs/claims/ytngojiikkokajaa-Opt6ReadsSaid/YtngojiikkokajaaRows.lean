/-
  No cell of these rows narrows 'for every input' (looked for: loops, veiled, ifaces, maps, wideKeys, modest, calm, conditions, laid).
  DERIVED. THE GIVEN ROWS OF THIS SEAT. 6 by the template 'for every input the law returns true; each argument reads behind the call as it read before'; 0 by the template 'total and deterministic' (their statements: YtngojiikkokajaaTotals.lean).
  GIVEN WITH THE SEED: the statements are not yours to turn. If you find one false, say at which input.
  Laid BY PROGRAM, IN A SANDBOX (cutbox-rows.mjs): the forced cells as the released guide's own fill.sh prints them over the translation 0a4c7d170401264d… (all of the seat's roots in one cut). By AI agents, Wed Nov 11 2026. No macro, syntax, notation, axiom, sorry.
-/
import Derived.Test.YtngojiikkokajaaChecked
import GoSem.Claim
import GoSem.ClaimJoined
import GoSem.ClaimMapViews
import Derived.JoinedTies
import Derived.KernelRfl
namespace Go.Proofs.Ytngojiikkokajaa
/- THE CELL 'sum', in the pinned program and in every row, IS THE sha256 OF THE DUMP (.gsa) THAT YtngojiikkokajaaProg.lean LOADS. Nothing in Lean hashes anything: it is a label: what it is worth is what the hold of that sum in a sandbox is worth. -/
noncomputable def Try.pinned : Pinned := { name := "ytngojiikkokajaa", sum := "0a4c7d170401264db5a0a3a5faab3f7fad5314702e7fa3474c87d3c309a9a56e", checked := Try.checked }
namespace Rows
def none {H : Type} : Left H := { results := [], args := [] }

/-- 'tenancylaw15.Opt6Lists': WHATEVER THE INPUT: true; the input reads as it did. -/
def opt6ListsSpec : ChangeSpec := { name := "opt6Lists", fn := fun _ => fun
  | [d1, d2, d3] => { results := [.lit (.bool true)], args := [d1, d2, d3] }
  | _ => none }
def opt6ListsRow : OpenClaim := { program := "ytngojiikkokajaa", sum := "0a4c7d170401264db5a0a3a5faab3f7fad5314702e7fa3474c87d3c309a9a56e", func := "tenancy/tenancylaw15.Opt6Lists", spec := "opt6Lists", inPlace := ["internal/abi.NoEscape", "internal/bytealg.MakeNoZero"], unfollowed := true, recurses := true, apart := false }
def Opt6ListsSaid : Prop := opt6ListsRow.holds Try.pinned (OpenSpec.ofChange opt6ListsSpec)

/-- ITS FALSE NEIGHBOUR: 'it returns false'. Refute it at one input. -/
def opt6ListsWrong : ChangeSpec := { name := "opt6Lists", fn := fun _ => fun
  | [d1, d2, d3] => { results := [.lit (.bool false)], args := [d1, d2, d3] }
  | _ => none }
def Opt6ListsWrongFalsely : Prop := opt6ListsRow.holds Try.pinned (OpenSpec.ofChange opt6ListsWrong)

/-- 'tenancylaw15.Opt6Writes': WHATEVER THE INPUT: true; the input reads as it did. -/
def opt6WritesSpec : ChangeSpec := { name := "opt6Writes", fn := fun _ => fun
  | [d] => { results := [.lit (.bool true)], args := [d] }
  | _ => none }
def opt6WritesRow : OpenClaim := { program := "ytngojiikkokajaa", sum := "0a4c7d170401264db5a0a3a5faab3f7fad5314702e7fa3474c87d3c309a9a56e", func := "tenancy/tenancylaw15.Opt6Writes", spec := "opt6Writes", inPlace := ["internal/abi.NoEscape", "internal/bytealg.MakeNoZero"], unfollowed := true, recurses := true, apart := false }
def Opt6WritesSaid : Prop := opt6WritesRow.holds Try.pinned (OpenSpec.ofChange opt6WritesSpec)

/-- ITS FALSE NEIGHBOUR: 'it returns false'. Refute it at one input. -/
def opt6WritesWrong : ChangeSpec := { name := "opt6Writes", fn := fun _ => fun
  | [d] => { results := [.lit (.bool false)], args := [d] }
  | _ => none }
def Opt6WritesWrongFalsely : Prop := opt6WritesRow.holds Try.pinned (OpenSpec.ofChange opt6WritesWrong)

/-- 'tenancylaw15.Opt6Reads': WHATEVER THE INPUT: true; the input reads as it did. -/
def opt6ReadsSpec : ChangeSpec := { name := "opt6Reads", fn := fun _ => fun
  | [d] => { results := [.lit (.bool true)], args := [d] }
  | _ => none }
def opt6ReadsRow : OpenClaim := { program := "ytngojiikkokajaa", sum := "0a4c7d170401264db5a0a3a5faab3f7fad5314702e7fa3474c87d3c309a9a56e", func := "tenancy/tenancylaw15.Opt6Reads", spec := "opt6Reads", inPlace := ["internal/abi.NoEscape", "internal/bytealg.MakeNoZero"], unfollowed := true, recurses := true, apart := false }
def Opt6ReadsSaid : Prop := opt6ReadsRow.holds Try.pinned (OpenSpec.ofChange opt6ReadsSpec)

/-- ITS FALSE NEIGHBOUR: 'it returns false'. Refute it at one input. -/
def opt6ReadsWrong : ChangeSpec := { name := "opt6Reads", fn := fun _ => fun
  | [d] => { results := [.lit (.bool false)], args := [d] }
  | _ => none }
def Opt6ReadsWrongFalsely : Prop := opt6ReadsRow.holds Try.pinned (OpenSpec.ofChange opt6ReadsWrong)

/-- 'tenancylaw15.Opt6Back': WHATEVER THE INPUT: true; the input reads as it did. -/
def opt6BackSpec : ChangeSpec := { name := "opt6Back", fn := fun _ => fun
  | [d1, d2] => { results := [.lit (.bool true)], args := [d1, d2] }
  | _ => none }
def opt6BackRow : OpenClaim := { program := "ytngojiikkokajaa", sum := "0a4c7d170401264db5a0a3a5faab3f7fad5314702e7fa3474c87d3c309a9a56e", func := "tenancy/tenancylaw15.Opt6Back", spec := "opt6Back", inPlace := ["internal/abi.NoEscape", "internal/bytealg.MakeNoZero"], unfollowed := true, recurses := true, apart := false }
def Opt6BackSaid : Prop := opt6BackRow.holds Try.pinned (OpenSpec.ofChange opt6BackSpec)

/-- ITS FALSE NEIGHBOUR: 'it returns false'. Refute it at one input. -/
def opt6BackWrong : ChangeSpec := { name := "opt6Back", fn := fun _ => fun
  | [d1, d2] => { results := [.lit (.bool false)], args := [d1, d2] }
  | _ => none }
def Opt6BackWrongFalsely : Prop := opt6BackRow.holds Try.pinned (OpenSpec.ofChange opt6BackWrong)

/-- 'tenancylaw15.Opt6Rows': WHATEVER THE INPUT: true; the input reads as it did. -/
def opt6RowsSpec : ChangeSpec := { name := "opt6Rows", fn := fun _ => fun
  | [d1, d2] => { results := [.lit (.bool true)], args := [d1, d2] }
  | _ => none }
def opt6RowsRow : OpenClaim := { program := "ytngojiikkokajaa", sum := "0a4c7d170401264db5a0a3a5faab3f7fad5314702e7fa3474c87d3c309a9a56e", func := "tenancy/tenancylaw15.Opt6Rows", spec := "opt6Rows", inPlace := ["internal/abi.NoEscape", "internal/bytealg.MakeNoZero"], unfollowed := true, recurses := true, apart := false }
def Opt6RowsSaid : Prop := opt6RowsRow.holds Try.pinned (OpenSpec.ofChange opt6RowsSpec)

/-- ITS FALSE NEIGHBOUR: 'it returns false'. Refute it at one input. -/
def opt6RowsWrong : ChangeSpec := { name := "opt6Rows", fn := fun _ => fun
  | [d1, d2] => { results := [.lit (.bool false)], args := [d1, d2] }
  | _ => none }
def Opt6RowsWrongFalsely : Prop := opt6RowsRow.holds Try.pinned (OpenSpec.ofChange opt6RowsWrong)

/-- 'tenancylaw15.Opt6Ignores': WHATEVER THE INPUT: true; the input reads as it did. -/
def opt6IgnoresSpec : ChangeSpec := { name := "opt6Ignores", fn := fun _ => fun
  | [d1, d2, d3] => { results := [.lit (.bool true)], args := [d1, d2, d3] }
  | _ => none }
def opt6IgnoresRow : OpenClaim := { program := "ytngojiikkokajaa", sum := "0a4c7d170401264db5a0a3a5faab3f7fad5314702e7fa3474c87d3c309a9a56e", func := "tenancy/tenancylaw15.Opt6Ignores", spec := "opt6Ignores", inPlace := ["internal/abi.NoEscape", "internal/bytealg.MakeNoZero"], unfollowed := true, recurses := true, apart := false }
def Opt6IgnoresSaid : Prop := opt6IgnoresRow.holds Try.pinned (OpenSpec.ofChange opt6IgnoresSpec)

/-- ITS FALSE NEIGHBOUR: 'it returns false'. Refute it at one input. -/
def opt6IgnoresWrong : ChangeSpec := { name := "opt6Ignores", fn := fun _ => fun
  | [d1, d2, d3] => { results := [.lit (.bool false)], args := [d1, d2, d3] }
  | _ => none }
def Opt6IgnoresWrongFalsely : Prop := opt6IgnoresRow.holds Try.pinned (OpenSpec.ofChange opt6IgnoresWrong)

/- THE SECOND FORM. 'bulk': how many values and letters a reading holds, each counted each time it is reached (what is shared counts as often as it is met; a slice's spare places count too). A statement '..UptoSaid' is the law's where the arguments, and the package variables that the reading takes, are together of bulk at most 1048576: NARROWER than '..Said'. Prove '..Said' where nothing that the law and all that it calls make is longer than what came in: it says more and counts as full. Else prove '..UptoSaid'. A law counts once. -/
mutual
def uptoBulk {H : Type} : DataW H → Nat
  | .lit (.string bytes) => bytes.length + 1
  | .lit _ => 1
  | .nil => 1
  | .ptr d => uptoBulk d + 1
  | .slice elems spare => uptoBulkAll elems + uptoBulkAll spare + 1
  | .agg parts => uptoBulkAll parts + 1
  | .iface _ d => uptoBulk d + 1
  | .map entries => uptoBulkEntries entries + 1
  | .held _ => 1
def uptoBulkAll {H : Type} : List (DataW H) → Nat
  | [] => 0
  | d :: r => uptoBulk d + uptoBulkAll r
def uptoBulkEntries {H : Type} : List (Lit × DataW H) → Nat
  | [] => 0
  | x :: r => uptoBulkEntry x + uptoBulkEntries r
def uptoBulkEntry {H : Type} : Lit × DataW H → Nat
  | (.string bytes, d) => bytes.length + uptoBulk d + 1
  | (_, d) => uptoBulk d + 1
 end
def uptoSmall : (H : Type) → List (DataW H) → Bool := fun _ ds => decide (uptoBulkAll ds ≤ 1048576)
def OpenSpec.upto (s : _root_.Go.ChangeSpec) : _root_.Go.OpenSpec := { _root_.Go.OpenSpec.ofChange s with cond := some uptoSmall }

/-- 'tenancylaw15.Opt6Lists', WHERE WHAT IT READS IS OF BULK AT MOST 1048576: true; the input reads as it did. -/
def opt6ListsUptoRow : OpenClaim := { program := "ytngojiikkokajaa", sum := "0a4c7d170401264db5a0a3a5faab3f7fad5314702e7fa3474c87d3c309a9a56e", func := "tenancy/tenancylaw15.Opt6Lists", spec := "opt6Lists", inPlace := ["internal/abi.NoEscape", "internal/bytealg.MakeNoZero"], unfollowed := true, recurses := true, apart := false, narrowed := true }
def Opt6ListsUptoSaid : Prop := opt6ListsUptoRow.holds Try.pinned (OpenSpec.upto opt6ListsSpec)

/-- 'tenancylaw15.Opt6Writes', WHERE WHAT IT READS IS OF BULK AT MOST 1048576: true; the input reads as it did. -/
def opt6WritesUptoRow : OpenClaim := { program := "ytngojiikkokajaa", sum := "0a4c7d170401264db5a0a3a5faab3f7fad5314702e7fa3474c87d3c309a9a56e", func := "tenancy/tenancylaw15.Opt6Writes", spec := "opt6Writes", inPlace := ["internal/abi.NoEscape", "internal/bytealg.MakeNoZero"], unfollowed := true, recurses := true, apart := false, narrowed := true }
def Opt6WritesUptoSaid : Prop := opt6WritesUptoRow.holds Try.pinned (OpenSpec.upto opt6WritesSpec)

/-- 'tenancylaw15.Opt6Reads', WHERE WHAT IT READS IS OF BULK AT MOST 1048576: true; the input reads as it did. -/
def opt6ReadsUptoRow : OpenClaim := { program := "ytngojiikkokajaa", sum := "0a4c7d170401264db5a0a3a5faab3f7fad5314702e7fa3474c87d3c309a9a56e", func := "tenancy/tenancylaw15.Opt6Reads", spec := "opt6Reads", inPlace := ["internal/abi.NoEscape", "internal/bytealg.MakeNoZero"], unfollowed := true, recurses := true, apart := false, narrowed := true }
def Opt6ReadsUptoSaid : Prop := opt6ReadsUptoRow.holds Try.pinned (OpenSpec.upto opt6ReadsSpec)

/-- 'tenancylaw15.Opt6Back', WHERE WHAT IT READS IS OF BULK AT MOST 1048576: true; the input reads as it did. -/
def opt6BackUptoRow : OpenClaim := { program := "ytngojiikkokajaa", sum := "0a4c7d170401264db5a0a3a5faab3f7fad5314702e7fa3474c87d3c309a9a56e", func := "tenancy/tenancylaw15.Opt6Back", spec := "opt6Back", inPlace := ["internal/abi.NoEscape", "internal/bytealg.MakeNoZero"], unfollowed := true, recurses := true, apart := false, narrowed := true }
def Opt6BackUptoSaid : Prop := opt6BackUptoRow.holds Try.pinned (OpenSpec.upto opt6BackSpec)

/-- 'tenancylaw15.Opt6Rows', WHERE WHAT IT READS IS OF BULK AT MOST 1048576: true; the input reads as it did. -/
def opt6RowsUptoRow : OpenClaim := { program := "ytngojiikkokajaa", sum := "0a4c7d170401264db5a0a3a5faab3f7fad5314702e7fa3474c87d3c309a9a56e", func := "tenancy/tenancylaw15.Opt6Rows", spec := "opt6Rows", inPlace := ["internal/abi.NoEscape", "internal/bytealg.MakeNoZero"], unfollowed := true, recurses := true, apart := false, narrowed := true }
def Opt6RowsUptoSaid : Prop := opt6RowsUptoRow.holds Try.pinned (OpenSpec.upto opt6RowsSpec)

/-- 'tenancylaw15.Opt6Ignores', WHERE WHAT IT READS IS OF BULK AT MOST 1048576: true; the input reads as it did. -/
def opt6IgnoresUptoRow : OpenClaim := { program := "ytngojiikkokajaa", sum := "0a4c7d170401264db5a0a3a5faab3f7fad5314702e7fa3474c87d3c309a9a56e", func := "tenancy/tenancylaw15.Opt6Ignores", spec := "opt6Ignores", inPlace := ["internal/abi.NoEscape", "internal/bytealg.MakeNoZero"], unfollowed := true, recurses := true, apart := false, narrowed := true }
def Opt6IgnoresUptoSaid : Prop := opt6IgnoresUptoRow.holds Try.pinned (OpenSpec.upto opt6IgnoresSpec)

end Rows
end Go.Proofs.Ytngojiikkokajaa
