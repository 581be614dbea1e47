/- A region that keeps its textual order, told once for each operation: what holds of the slots and of the world. No condition but those typed. Own text. -/
import Derived.Test.YthadapbekmmgpaaDXReg
set_option linter.unusedVariables false
set_option linter.unusedSimpArgs false
namespace Go.Proofs.Ythadapbekmmgpaa.XReg
open Go Go.RowKit
variable {F : Fence} {n : Nat} {P : Program} {ops : Array Oper} {Q : Exit → Act → World → Prop}
/-- A region in its textual order: as region_runD. -/
theorem regionF {id : Nat} {a : Act} {w : World} (m : Nat) (hok : okB ops m a.tmps.size = true)
    (V : Nat → Value → World → Prop) (B : World → Prop) (hVm : ∀ i v w w', V i v w → Below w.heap.size w w' → V i v w') (hBm : ∀ w w', B w → Below w.heap.size w w' → B w') (hB : B w)
    (hstep : ∀ i o a' w', i < m → ops[i]? = some o → B w' → a'.defers = a.defers → (∀ x, restB ops m x = true → a'.eval (.tmp x) = a.eval (.tmp x)) → (∀ j d, depB ops i j d = true → j < m → V j (a'.eval (.tmp d)) w') →
      o.wpIn F n P a' w' (fun a2 w2 => ∃ v, a2 = a'.put o.dst v ∧ Below w'.heap.size w' w2 ∧ V i v w2) Q)
    (hlast : ∀ o a' w', ops[m]? = some o → B w' → a'.defers = a.defers → a'.tmps.size = a.tmps.size → (∀ x, restB ops m x = true → a'.eval (.tmp x) = a.eval (.tmp x)) → (∀ j d, depB ops m j d = true → j < m → V j (a'.eval (.tmp d)) w') →
      o.wpIn F n P a' w' (fun a2 w2 => Q .normal a2 w2) Q) : (Code.region id ops false).wpIn F n P Q a w := by
  unfold okB at hok
  simp only [Bool.and_eq_true, beq_iff_eq, List.all_eq_true, List.mem_range] at hok
  obtain ⟨⟨⟨hsz, h1⟩, h2⟩, h3⟩ := hok
  have hop : ∀ i, i < ops.size → ∃ o, ops[i]? = some o ∧ o.guard = none ∧ (∀ e ∈ o.after, Region.binds .any e = true → e.on < i) ∧ (i = m ∨ ∃ d, o.dst = some d ∧ d < a.tmps.size) := fun i hi => by
    have := h1 i hi
    rw [Array.getElem?_eq_getElem hi] at this ⊢
    simp only [Option.map_some, Option.getD_some, Bool.and_eq_true, Bool.or_eq_true, beq_iff_eq, Option.isNone_iff_eq_none] at this
    obtain ⟨⟨g1, g2⟩, g3⟩ := this
    refine ⟨_, rfl, g1, fun e he hb => by have := (Array.all_eq_true'.1 g2) e he; rw [hb] at this; simpa using this, ?_⟩
    rcases g3 with g3 | g3
    · exact .inl g3
    · cases hd : ops[i].dst with
      | none => rw [hd] at g3; simp at g3
      | some d => rw [hd] at g3; exact .inr ⟨d, rfl, by simpa using g3⟩
  have hdag : ∀ i d, Waits ops i d → d < i := fun i d ⟨o, ho, e, he, hb, hd⟩ => by
    have hi : i < ops.size := (Array.getElem?_eq_some_iff.1 ho).1
    obtain ⟨o', ho', _, hh, _⟩ := hop i hi
    rw [ho] at ho'
    cases ho'
    subst hd
    exact hh e he hb
  have hinj : ∀ i j o o' d, i < m → j < m → ops[i]? = some o → ops[j]? = some o' → o.dst = some d → o'.dst = some d → i = j := fun i j o o' d hi hj ho ho' hd hd' => by
    have := h3 i hi j hj
    rw [ho, ho'] at this
    simp [hd, hd'] at this
    exact this
  have main : ∀ k i a' w', i + k = m → B w' → a'.defers = a.defers → a'.tmps.size = a.tmps.size → (∀ x, restB ops m x = true → a'.eval (.tmp x) = a.eval (.tmp x)) → (∀ j oj d, j < i → j < m → ops[j]? = some oj → oj.dst = some d → V j (a'.eval (.tmp d)) w') → wpOpsIn F n P ops Q (List.range' i (k + 1)) a' w' := by
    intro k
    induction k with
    | zero =>
      intro i a' w' hik hb hdf hs hr hv
      obtain rfl : i = m := by omega
      obtain ⟨o, ho, hg, _, _⟩ := hop i (by omega)
      simp only [Nat.zero_add, List.range'_one, wpOpsIn, ho]
      have hwant : Region.wanted o (yielded ops a'.tmps) = true := by simp [Region.wanted, hg]
      rw [if_pos hwant]
      exact hlast o a' w' ho hb hdf hs hr (fun j d hj hjm => by obtain ⟨_, oj, h4, h5⟩ := depB_spec hj; exact hv j oj d hjm hjm h4 h5)
    | succ k ih =>
      intro i a' w' hik hb hdf hs hr hv
      have him : i < m := by omega
      obtain ⟨o, ho, hg, _, hd⟩ := hop i (by omega)
      obtain ⟨d, hdd, hdl⟩ := hd.resolve_left (by omega)
      rw [List.range'_succ]
      simp only [wpOpsIn, ho]
      have hwant : Region.wanted o (yielded ops a'.tmps) = true := by simp [Region.wanted, hg]
      rw [if_pos hwant]
      refine Oper.wpIn_mono ?_ (hstep i o a' w' him ho hb hdf hr (fun j d hj hjm => by obtain ⟨hwt, oj, h4, h5⟩ := depB_spec hj; exact hv j oj d (hdag i j hwt) hjm h4 h5))
      rintro a2 w2 ⟨v, rfl, hbl, hv2⟩
      rw [hdd]
      refine ih (i + 1) _ w2 (by omega) (hBm _ _ hb hbl) (by simpa [Act.put] using hdf) (by simpa [Act.put] using hs) (fun x hx => ?_) (fun j oj dj hj hjm hoj hdj => ?_)
      · rw [eval_put_other a' d x v (fun e => restB_spec hx i o him ho (by rw [hdd, e]))]
        exact hr x hx
      · by_cases hij : j = i
        · subst hij
          rw [ho] at hoj
          cases hoj
          rw [hdd] at hdj
          cases hdj
          rw [eval_put_same a' d v (by rw [hs]; exact hdl)]
          exact hv2
        · rw [eval_put_other a' d dj v (fun e => hij (hinj j i oj o d hjm him hoj ho (by rw [hdj, e]) hdd))]
          exact hVm _ _ _ _ (hv j oj dj (by omega) hjm hoj hdj) hbl
  refine wpIn_region ?_
  rw [hsz, List.range_eq_range']
  exact main m 0 a w (by omega) hB rfl rfl (fun _ _ => rfl) (fun j _ _ hj => absurd hj (by omega))
end Go.Proofs.Ythadapbekmmgpaa.XReg
