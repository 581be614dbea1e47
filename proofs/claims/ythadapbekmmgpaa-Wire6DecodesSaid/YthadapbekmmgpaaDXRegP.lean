/- A region that draws its order and in which one operation writes in place (an append): told once for each operation, ahead of that one and behind it. No condition but those typed. Own text. -/
import Derived.Test.YthadapbekmmgpaaDXReg
set_option linter.unusedVariables false
set_option linter.unusedSimpArgs false
namespace Go.Proofs.Ythadapbekmmgpaa.XReg
open Go Go.RowKit
variable {F : Fence} {n : Nat} {P : Program} {ops : Array Oper} {Q : Exit → Act → World → Prop}
/-- What holds while the operations ahead of the last come up, one of which (q) writes in place: ahead of it and behind it. -/
structure InvP (V : Bool → Nat → Value → World → Prop) (B : Bool → World → Prop) (q : Nat) (ops : Array Oper) (a0 : Act) (m : Nat) (L : Array Bool) (a : Act) (w : World) : Prop where
  base : B (L.getD q false) w
  defers : a.defers = a0.defers
  size : a.tmps.size = a0.tmps.size
  rest : ∀ x, (∀ i o, i < m → ops[i]? = some o → o.dst = some x → L.getD i false = false) → a.eval (.tmp x) = a0.eval (.tmp x)
  val : ∀ i o d, i < m → ops[i]? = some o → L.getD i false = true → o.dst = some d → V (L.getD q false) i (a.eval (.tmp d)) w
  closed : ∀ i d, i < m → Waits ops i d → L.getD i false = true → L.getD d false = true
theorem region_goP {id : Nat} {a : Act} {w : World} (hm : P.follows .mixedOrders = true) (m q : Nat) (hq : q < m) (hok : okB ops m a.tmps.size = true)
    (V : Bool → Nat → Value → World → Prop) (B : Bool → World → Prop) (hVm : ∀ p i v w w', V p i v w → Below w.heap.size w w' → V p i v w') (hBm : ∀ p w w', B p w → Below w.heap.size w w' → B p w') (hB : B false { w with drawn := w.drawn + 1 })
    (hstep : ∀ p i o a' w', i < m → i ≠ q → ops[i]? = some o → B p w' → a'.defers = a.defers → (∀ x, restB ops m x = true → a'.eval (.tmp x) = a.eval (.tmp x)) → (∀ j d, depB ops i j d = true → j < m → V p j (a'.eval (.tmp d)) w') →
      o.wpIn F n P a' w' (fun a2 w2 => ∃ v, a2 = a'.put o.dst v ∧ Below w'.heap.size w' w2 ∧ V p i v w2) Q)
    (hspec : ∀ o a' w', ops[q]? = some o → B false w' → a'.defers = a.defers → (∀ x, restB ops m x = true → a'.eval (.tmp x) = a.eval (.tmp x)) → (∀ j d, depB ops q j d = true → j < m → V false j (a'.eval (.tmp d)) w') →
      o.wpIn F n P a' w' (fun a2 w2 => ∃ v, a2 = a'.put o.dst v ∧ B true w2 ∧ V true q v w2 ∧ ∀ j v', j ≠ q → V false j v' w' → V true j v' w2) Q)
    (hlast : ∀ o a' w', ops[m]? = some o → B true w' → a'.defers = a.defers → a'.tmps.size = a.tmps.size → (∀ x, restB ops m x = true → a'.eval (.tmp x) = a.eval (.tmp x)) → (∀ j d, depB ops m j d = true → j < m → V true j (a'.eval (.tmp d)) w') →
      o.wpIn F n P a' w' (fun a2 w2 => Q .normal a2 w2) Q) : (Code.region id ops true).wpIn F n P Q a w := by
  unfold okB at hok
  simp only [Bool.and_eq_true, beq_iff_eq, List.all_eq_true, List.mem_range] at hok
  obtain ⟨⟨⟨hsz, h1⟩, h2⟩, h3⟩ := hok
  have hop : ∀ i, i < ops.size → ∃ o, ops[i]? = some o ∧ o.guard = none ∧ (∀ e ∈ o.after, Region.binds .any e = true → e.on < i) ∧ (i = m ∨ ∃ d, o.dst = some d ∧ d < a.tmps.size) := fun i hi => by
    have := h1 i hi
    rw [Array.getElem?_eq_getElem hi] at this ⊢
    simp only [Option.map_some, Option.getD_some, Bool.and_eq_true, Bool.or_eq_true, beq_iff_eq, Option.isNone_iff_eq_none] at this
    obtain ⟨⟨g1, g2⟩, g3⟩ := this
    refine ⟨_, rfl, g1, fun e he hb => by have := (Array.all_eq_true'.1 g2) e he; rw [hb] at this; simpa using this, ?_⟩
    rcases g3 with g3 | g3
    · exact .inl g3
    · cases hd : ops[i].dst with
      | none => rw [hd] at g3; simp at g3
      | some d => rw [hd] at g3; exact .inr ⟨d, rfl, by simpa using g3⟩
  have hdag : ∀ i d, Waits ops i d → d < i := fun i d ⟨o, ho, e, he, hb, hd⟩ => by
    have hi : i < ops.size := (Array.getElem?_eq_some_iff.1 ho).1
    obtain ⟨o', ho', _, hh, _⟩ := hop i hi
    rw [ho] at ho'
    cases ho'
    subst hd
    exact hh e he hb
  have hinj : ∀ i j o o' d, i < m → j < m → ops[i]? = some o → ops[j]? = some o' → o.dst = some d → o'.dst = some d → i = j := fun i j o o' d hi hj ho ho' hd hd' => by
    have := h3 i hi j hj
    rw [ho, ho'] at this
    simp [hd, hd'] at this
    exact this
  have hwl : ∀ j, j < m → ∃ i, j < i ∧ i ≤ m ∧ Waits ops i j := fun j hj => by
    have := h2 j hj
    obtain ⟨i, hi, hb⟩ := List.any_eq_true.1 this
    rw [List.mem_range] at hi
    rw [Bool.and_eq_true, decide_eq_true_eq] at hb
    obtain ⟨hji, hb⟩ := hb
    obtain ⟨o, ho, _⟩ := hop i (by omega)
    rw [ho] at hb
    simp only [Option.map_some, Option.getD_some] at hb
    obtain ⟨e, he, hb⟩ := Array.any_eq_true'.1 hb
    simp only [Bool.and_eq_true, beq_iff_eq] at hb
    exact ⟨i, hji, by omega, o, ho, e, he, hb.1, hb.2⟩
  have hget : ∀ (L : Array Bool) (i : Nat), i < L.size → L.getD i true = L.getD i false := fun L i hi => by simp [Array.getD, hi]
  refine wpIn_region_any hm ?_
  refine any_go hdag (fun L a' w' => (L.getD m true = true ∧ (∀ i, i < m → L.getD i true = true) ∧ Q .normal a' w') ∨ (L.getD m true = false ∧ InvP V B q ops a m L a' w')) ?_ ?_ ops.size _ a _ (by simp) (by simp) ?_
  · intro L a' w' i hLs hi hLi hw hJ
    obtain ⟨o, ho, hg, _, hd⟩ := hop i hi
    rcases hJ with ⟨hm1, hall, _⟩ | ⟨hm1, hI⟩
    · exfalso
      rcases Nat.lt_or_ge i m with h | h
      · rw [hall i h] at hLi; cases hLi
      · obtain rfl : i = m := by omega
        rw [hm1] at hLi; cases hLi
    have hwant : Region.wanted o (yielded ops a'.tmps) = true := by simp [Region.wanted, hg]
    unfold wpOpIn
    rw [ho]
    simp only [hwant, if_true]
    by_cases him : i = m
    · subst him
      have hlist' : ∀ t j, j < i → i - j ≤ t → L.getD j false = true := fun t => by
        induction t with
        | zero => intro j hj ht; omega
        | succ t ih =>
          intro j hj ht
          obtain ⟨q, hjq, hqi, hwq⟩ := hwl j hj
          rcases Nat.lt_or_ge q i with hlt | hge
          · exact hI.closed q j hlt hwq (ih q hlt (by omega))
          · obtain rfl : q = i := by omega
            exact hw j hwq
      have hlist : ∀ j, j < i → L.getD j false = true := fun j hj => hlist' _ j hj (Nat.le_refl _)
      have hLq : L.getD q false = true := hlist q hq
      refine Oper.wpIn_mono ?_ (hlast o a' w' ho (hLq ▸ hI.base) hI.defers hI.size (fun x hx => hI.rest x (fun q' oq hq' hoq hd => absurd hd (restB_spec hx q' oq hq' hoq))) (fun j d hj hjm => by obtain ⟨_, oj, hoj, hdj⟩ := depB_spec hj; exact hLq ▸ hI.val j oj d hjm hoj (hlist j hjm) hdj))
      intro a2 w2 hq
      refine .inl ⟨by simp [Array.getD, hLs, hi], fun j hj => ?_, hq⟩
      have := hlist j hj
      have hjs : j < L.size := by omega
      have hne : i ≠ j := by omega
      simp [Array.getD, hjs, Array.getElem_setIfInBounds, hne] at this ⊢
      exact this
    · have hlt : i < m := by omega
      obtain ⟨d, hdd, hdl⟩ := hd.resolve_left him
      have hms : m < L.size := by omega
      have hqs : q < L.size := by omega
      have hrest : ∀ x, restB ops m x = true → a'.eval (.tmp x) = a.eval (.tmp x) := fun x hx => hI.rest x (fun q' oq hq' hoq hd => absurd hd (restB_spec hx q' oq hq' hoq))
      have hdep : ∀ j dj, depB ops i j dj = true → j < m → V (L.getD q false) j (a'.eval (.tmp dj)) w' := fun j dj hj hjm => by
        obtain ⟨hwj, oj, hoj, hdj⟩ := depB_spec hj
        exact hI.val j oj dj hjm hoj (hw j hwj) hdj
      -- what both ways share
      have close : ∀ v w2, B ((L.setIfInBounds i true).getD q false) w2 → V ((L.setIfInBounds i true).getD q false) i v w2 → (∀ j v', j ≠ i → V (L.getD q false) j v' w' → V ((L.setIfInBounds i true).getD q false) j v' w2) → InvP V B q ops a m (L.setIfInBounds i true) (a'.put (some d) v) w2 := by
        intro v w2 hb hv hVV
        refine ⟨hb, by simpa [Act.put] using hI.defers, by simpa [Act.put] using hI.size, fun x hx => ?_, fun j oj dj hj hoj hLj hdj => ?_, fun j dj hj hwj hLj => ?_⟩
        · have hxd : x ≠ d := fun e => by
            have := hx i o hlt ho (by rw [hdd, e])
            have his : i < L.size := by omega
            simp [Array.getD, his] at this
          rw [eval_put_other a' d x v hxd]
          refine hI.rest x fun q' oq hq' hoq hd => ?_
          have hqs' : q' < L.size := by omega
          have hiq : i ≠ q' := fun e => hxd (by
            subst e
            rw [ho] at hoq
            cases hoq
            rw [hdd] at hd
            exact (Option.some.inj hd).symm)
          have := hx q' oq hq' hoq hd
          simpa [Array.getD, hqs', Array.getElem_setIfInBounds, hiq] using this
        · by_cases hij : j = i
          · subst hij
            rw [ho] at hoj
            cases hoj
            rw [hdd] at hdj
            cases hdj
            rw [eval_put_same a' d v (by rw [hI.size]; exact hdl)]
            exact hv
          · rw [eval_put_other a' d dj v (fun e => hij (hinj j i oj o d hj hlt hoj ho (by rw [hdj, e]) hdd))]
            have hjs : j < L.size := by omega
            have hne : i ≠ j := fun e => hij e.symm
            have hLj' : L.getD j false = true := by simpa [Array.getD, hjs, Array.getElem_setIfInBounds, hne] using hLj
            exact hVV j _ hij (hI.val j oj dj hj hoj hLj' hdj)
        · have hup : L.getD dj false = true → (L.setIfInBounds i true).getD dj false = true := fun h => by
            by_cases hs : dj < L.size
            · by_cases hid : i = dj
              · subst hid
                simp [Array.getD, hs]
              · simpa [Array.getD, hs, Array.getElem_setIfInBounds, hid] using h
            · simp [Array.getD, hs] at h
          refine hup ?_
          by_cases hij : j = i
          · subst hij
            exact hw dj hwj
          · have hjs : j < L.size := by omega
            have hne : i ≠ j := fun e => hij e.symm
            have hLj' : L.getD j false = true := by simpa [Array.getD, hjs, Array.getElem_setIfInBounds, hne] using hLj
            exact hI.closed j dj hj hwj hLj'
      have hm2 : (L.setIfInBounds i true).getD m true = false := by simpa [Array.getD, hms, Array.getElem_setIfInBounds, him] using hm1
      by_cases hiq : i = q
      · subst hiq
        have hLq : L.getD i false = false := by rw [← hget L i (by omega)]; exact hLi
        have hLq2 : (L.setIfInBounds i true).getD i false = true := by simp [Array.getD, hqs]
        rw [hLq] at hdep
        refine Oper.wpIn_mono ?_ (hspec o a' w' ho (hLq ▸ hI.base) hI.defers hrest hdep)
        rintro a2 w2 ⟨v, rfl, hb, hv, hVV⟩
        rw [hdd]
        exact .inr ⟨hm2, close v w2 (by rw [hLq2]; exact hb) (by rw [hLq2]; exact hv) (fun j v' hj h => by rw [hLq2]; exact hVV j v' hj (by rw [hLq] at h; exact h))⟩
      · have hsame : (L.setIfInBounds i true).getD q false = L.getD q false := by
          simp [Array.getD, hqs, Array.getElem_setIfInBounds, hiq]
        refine Oper.wpIn_mono ?_ (hstep (L.getD q false) i o a' w' hlt hiq ho hI.base hI.defers hrest hdep)
        rintro a2 w2 ⟨v, rfl, hbl, hv⟩
        rw [hdd]
        exact .inr ⟨hm2, close v w2 (by rw [hsame]; exact hBm _ _ _ hI.base hbl) (by rw [hsame]; exact hv) (fun j v' _ h => by rw [hsame]; exact hVm _ _ _ _ _ h hbl)⟩
  · rintro L a' w' hLs hall (⟨_, _, hq⟩ | ⟨hm1, _⟩)
    · exact hq
    · rw [hall m (by omega)] at hm1; cases hm1
  · have hq0 : (Array.replicate ops.size false).getD q false = false := by simp [Array.getD, hsz]
    refine .inr ⟨by simp [Array.getD, hsz], by rw [hq0]; exact hB, rfl, rfl, fun _ _ => rfl, fun i o d hi ho hL _ => ?_, fun i d hi _ hL => ?_⟩
    all_goals
      have : i < ops.size := by omega
      simp [Array.getD, this] at hL
end Go.Proofs.Ythadapbekmmgpaa.XReg
