/- The law LeaseRight: for every input it returns true and leaves its arguments as they were: no condition. The row, out of the plain statement and the walk. -/
import Derived.Test.YtpdopkhdhbdljaaRows
import Derived.Test.YtpdopkhdhbdljaaG10
import Derived.Test.YtpdopkhdhbdljaaPureLeaseRight
import Derived.WalkKit
import Derived.ProofKit
import Derived.OpenShut
import Derived.ShutString
import Derived.ChangeOld
import Derived.Below
import Derived.SizedLaws
namespace Go.Proofs.Ytpdopkhdhbdljaa.leaseRight
open Go.ChangeShapes Go.WideShapes Go.ChangeAt Go.RowKit Go.Proofs.YtpdopkhdhbdljaaW.PrintWords Go.Proofs.Ytpdopkhdhbdljaa.X
open Go.ChangeMaps (open_string shut_string)
set_option linter.unusedVariables false
theorem own : ownKnob Try.prog.godebug = none := by kernel_rfl
theorem laidOut : laidOutB Try.prog = true := by kernel_rfl
set_option maxRecDepth 100000 in
theorem lifted (os : Os) (started : os.Started) (H : Type) (enc : TypeId × Value → H) :
    ReturnsInHanded {} Try.checked os 3 .any (Rows.leaseRightSpec.pre6 enc Try.prog Try.f3 Rows.leaseRightRow.domain false) (Rows.leaseRightSpec.post enc Try.prog Try.f3 false true false false) := by
  refine returnsInHanded_of_change_sized (C := Try.checked) own started (by kernel_rfl) Try.func3
    (ChangeSpec.witness6 (enc := enc) (C := Try.checked) false ⟨#[], #[.agg #[.bool false, .int .i64 0, .int .u64 0, .int .u64 0, .int .i64 0, .int .i64 0, .string ByteArray.empty, .int .u32 0, .int .i64 0], .agg #[.bool false, .int .i64 0, .int .u64 0, .int .u64 0, .int .i64 0, .int .i64 0, .string ByteArray.empty, .int .u32 0, .int .i64 0]], []⟩ 8 (by kernel_rfl) (by kernel_rfl) (by kernel_rfl) (by kernel_rfl)) ?_
  intro W base args ds gs before hval0 hW hcnd hsz0 _
  have hsz : (DataW.weightsEach Try.prog (Try.f3.params.toList ++ Rows.leaseRightSpec.plain.varTypes Try.prog) (ds ++ gs)).all (· ≤ reachBytes) = true := hsz0
  have hval : ∀ (j : Nat) t v, Try.f3.params[j]? = some t → args[j]? = some v → Value.okWide Try.prog W .any base t v := hval0
  have hW' := hW
  obtain ⟨p, q, hA0, hV, rfl, hfz, hnd⟩ := hW
  have hA : DataW.TrodAll enc Try.prog W 0 (fun _ => true) true Try.f3.params.toList args.toList ds p := hA0
  rw [Try.params3] at hA hval hsz
  obtain ⟨v0, vs0, d0, ds0, p0, q0, hargs, rfl, rfl, h0, r0⟩ := trodAll_cons hA
  obtain ⟨v1, vs1, d1, ds1, p1, q1, rfl, rfl, rfl, h1, r1⟩ := trodAll_cons r0
  obtain ⟨rfl, rfl, rfl⟩ := trodAll_nil r1
  obtain rfl : args = #[v0, v1] := by cases args; simp_all
  obtain ⟨rfl, rfl⟩ := trodVars_none hV
  have k0 := h0
  have lt0 : ∀ x ∈ p0, x.block < W.heap.size := by obtain ⟨m, hm⟩ := k0; exact DataW.trod_lt m _ _ _ hm
  obtain ⟨c0, rfl, _⟩ := okWide_struct Try.underlying31 (hval 0 31 v0 rfl rfl)
  obtain ⟨c0⟩ := c0
  obtain ⟨x0, hk0, w0⟩ := XRow.opens_arg opens31 hsz (j := 0) (t := 31) rfl rfl h0
  obtain rfl : c0 = _ := k31_open hk0
  have k1 := h1
  have lt1 : ∀ x ∈ p1, x.block < W.heap.size := by obtain ⟨m, hm⟩ := k1; exact DataW.trod_lt m _ _ _ hm
  obtain ⟨c1, rfl, _⟩ := okWide_struct Try.underlying31 (hval 1 31 v1 rfl rfl)
  obtain ⟨c1⟩ := c1
  obtain ⟨x1, hk1, w1⟩ := XRow.opens_arg opens31 hsz (j := 1) (t := 31) rfl rfl h1
  obtain rfl : c1 = _ := k31_open hk1
  clear hA0 hval0 hsz0 hsz
  obtain ⟨k, hP⟩ := Pure.LeaseRight x0 x1 w0 w1
  refine (tenancylaw08_LeaseRight.calls k (x0.f0) (x0.f1.f0) (x0.f1.f1.f0.f0) (x0.f1.f1.f0.f1) (x0.f1.f1.f1) (x0.f1.f2) (x0.f1.f3) (x0.f1.f4) (x0.f1.f5) (x1.f0) (x1.f1.f0) (x1.f1.f1.f0.f0) (x1.f1.f1.f0.f1) (x1.f1.f1.f1) (x1.f1.f2) (x1.f1.f3) (x1.f1.f4) (x1.f1.f5) true W  hP).mono ?_
  rintro e W' ⟨rfl, hd⟩
  have bel : Below W.heap.size W W' := hd
  exact ⟨_, rfl, _, _, _, [], _, [], hW', trodAll_mk1 (shut_bool Try.underlying4 _), (trodAll_cons_mk (Below.trod laidOut (by kernel_rfl) (of_decide_eq_true (by kernel_rfl)) k0 bel lt0) (trodAll_cons_mk (Below.trod laidOut (by kernel_rfl) (of_decide_eq_true (by kernel_rfl)) k1 bel lt1) trodAll_mk0)), rfl, bel.frame _, fun h => by cases h⟩
theorem over : Rows.leaseRightRow.holds Try.pinned (OpenSpec.ofChange Rows.leaseRightSpec) :=
  OpenClaim.holds_of_wide 3 Try.f3 rfl rfl rfl rfl rfl rfl rfl ⟨rfl, rfl, rfl, rfl, rfl⟩ rfl rfl rfl rfl rfl (by kernel_rfl) Try.func3 (by kernel_rfl)
    (of_decide_eq_true (by kernel_rfl)) (by unfold Func.isWrapper; first | (rw [if_pos (by decide +kernel)]; kernel_rfl) | (rw [if_neg (by decide +kernel)]; exact ⟨rfl, rfl⟩))
    (fun os started H enc _ => lifted os started H enc)
theorem proved : Rows.LeaseRightSaid := over
#print axioms proved
end Go.Proofs.Ytpdopkhdhbdljaa.leaseRight
namespace Go.Proofs.Ytpdopkhdhbdljaa
/-- The row, under a short name, for the claim. -/
theorem leaseRight_holds : Rows.LeaseRightSaid := leaseRight.proved
end Go.Proofs.Ytpdopkhdhbdljaa
