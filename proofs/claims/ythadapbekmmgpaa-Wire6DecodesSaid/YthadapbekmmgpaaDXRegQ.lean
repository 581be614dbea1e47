/- A region that draws its order and in which one operation writes in place (a call) and a later one stores without a result: told once for each operation, in each of three phases. No condition but those typed. Own text. -/
import Derived.Test.YthadapbekmmgpaaDXReg
set_option linter.unusedVariables false
set_option linter.unusedSimpArgs false
namespace Go.Proofs.Ythadapbekmmgpaa.XReg
open Go Go.RowKit
variable {F : Fence} {n : Nat} {P : Program} {ops : Array Oper} {Q : Exit → Act → World → Prop}
def ph (L : Array Bool) (q q2 : Nat) : Nat := (L.getD q false).toNat + (L.getD q2 false).toNat
structure InvQ (V : Nat → Nat → Value → World → Prop) (B : Nat → World → Prop) (q q2 : Nat) (ops : Array Oper) (a0 : Act) (m : Nat) (L : Array Bool) (a : Act) (w : World) : Prop where
  base : B (ph L q q2) w
  defers : a.defers = a0.defers
  size : a.tmps.size = a0.tmps.size
  rest : ∀ x, (∀ i o, i < m → ops[i]? = some o → o.dst = some x → L.getD i false = false) → a.eval (.tmp x) = a0.eval (.tmp x)
  val : ∀ i o d, i < m → ops[i]? = some o → L.getD i false = true → o.dst = some d → V (ph L q q2) i (a.eval (.tmp d)) w
  closed : ∀ i d, i < m → Waits ops i d → L.getD i false = true → L.getD d false = true
def okQ (ops : Array Oper) (m q q2 k : Nat) : Bool :=
  (ops.size == m + 1) && (List.range ops.size).all (fun i => ((ops[i]?).map (fun o => o.guard.isNone && o.after.all (fun e => !Region.binds .any e || decide (e.on < i)) && (i == m || (if i == q2 then o.dst == none else (o.dst.map (fun d => decide (d < k))).getD false)))).getD false) &&
  (List.range m).all (fun j => (List.range (m + 1)).any (fun i => decide (j < i) && ((ops[i]?).map (fun o => o.after.any (fun e => Region.binds .any e && e.on == j))).getD false)) &&
  (List.range m).all (fun i => (List.range m).all (fun j => i == j || i == q2 || ((ops[i]?).map (·.dst) != (ops[j]?).map (·.dst)))) &&
  ((ops[q2]?).map (fun o => o.after.any (fun e => Region.binds .any e && e.on == q))).getD false
theorem region_goQ {id : Nat} {a : Act} {w : World} (hm : P.follows .mixedOrders = true) (m q q2 : Nat) (hq : q < q2) (hq2 : q2 < m) (hok : okQ ops m q q2 a.tmps.size = true)
    (V : Nat → Nat → Value → World → Prop) (B : Nat → World → Prop) (hVm : ∀ p i v w w', V p i v w → Below w.heap.size w w' → V p i v w') (hBm : ∀ p w w', B p w → Below w.heap.size w w' → B p w') (hB : B 0 { w with drawn := w.drawn + 1 })
    (hstep : ∀ p i o a' w', i < m → i ≠ q → i ≠ q2 → (p = 2 → ¬ Waits ops q2 i) → ops[i]? = some o → B p w' → a'.defers = a.defers → (∀ x, restB ops m x = true → a'.eval (.tmp x) = a.eval (.tmp x)) → (∀ j d, depB ops i j d = true → j < m → V p j (a'.eval (.tmp d)) w') →
      o.wpIn F n P a' w' (fun a2 w2 => ∃ v, a2 = a'.put o.dst v ∧ Below w'.heap.size w' w2 ∧ V p i v w2) Q)
    (hspec : ∀ o a' w', ops[q]? = some o → B 0 w' → a'.defers = a.defers → (∀ x, restB ops m x = true → a'.eval (.tmp x) = a.eval (.tmp x)) → (∀ j d, depB ops q j d = true → j < m → V 0 j (a'.eval (.tmp d)) w') →
      o.wpIn F n P a' w' (fun a2 w2 => ∃ v, a2 = a'.put o.dst v ∧ B 1 w2 ∧ V 1 q v w2 ∧ ∀ j v', j ≠ q → V 0 j v' w' → V 1 j v' w2) Q)
    (hspec2 : ∀ o a' w', ops[q2]? = some o → B 1 w' → a'.defers = a.defers → (∀ x, restB ops m x = true → a'.eval (.tmp x) = a.eval (.tmp x)) → (∀ j d, depB ops q2 j d = true → j < m → V 1 j (a'.eval (.tmp d)) w') →
      o.wpIn F n P a' w' (fun a2 w2 => a2 = a' ∧ B 2 w2 ∧ ∀ j oj d, ops[j]? = some oj → oj.dst = some d → V 1 j (a'.eval (.tmp d)) w' → V 2 j (a'.eval (.tmp d)) w2) Q)
    (hlast : ∀ o a' w', ops[m]? = some o → B 2 w' → a'.defers = a.defers → a'.tmps.size = a.tmps.size → (∀ x, restB ops m x = true → a'.eval (.tmp x) = a.eval (.tmp x)) → (∀ j d, depB ops m j d = true → j < m → V 2 j (a'.eval (.tmp d)) w') →
      o.wpIn F n P a' w' (fun a2 w2 => Q .normal a2 w2) Q) : (Code.region id ops true).wpIn F n P Q a w := by
  unfold okQ at hok
  simp only [Bool.and_eq_true, beq_iff_eq, List.all_eq_true, List.mem_range] at hok
  obtain ⟨⟨⟨⟨hsz, h1⟩, h2⟩, h3⟩, h4⟩ := hok
  have hop : ∀ i, i < ops.size → ∃ o, ops[i]? = some o ∧ o.guard = none ∧ (∀ e ∈ o.after, Region.binds .any e = true → e.on < i) ∧ (i = m ∨ (i = q2 ∧ o.dst = none) ∨ (i ≠ q2 ∧ ∃ d, o.dst = some d ∧ d < a.tmps.size)) := fun i hi => by
    have := h1 i hi
    rw [Array.getElem?_eq_getElem hi] at this ⊢
    simp only [Option.map_some, Option.getD_some, Bool.and_eq_true, Bool.or_eq_true, beq_iff_eq, Option.isNone_iff_eq_none] at this
    obtain ⟨⟨g1, g2⟩, g3⟩ := this
    refine ⟨_, rfl, g1, fun e he hb => by have := (Array.all_eq_true'.1 g2) e he; rw [hb] at this; simpa using this, ?_⟩
    rcases g3 with g3 | g3
    · exact .inl g3
    · by_cases e2 : i = q2
      · subst e2
        simp at g3
        exact .inr (.inl ⟨rfl, g3⟩)
      · rw [if_neg e2] at g3
        cases hd : ops[i].dst with
        | none => rw [hd] at g3; simp at g3
        | some d => rw [hd] at g3; exact .inr (.inr ⟨e2, d, rfl, by simpa using g3⟩)
  have hw21 : Waits ops q2 q := by
    have hlt : q2 < ops.size := by omega
    rw [Array.getElem?_eq_getElem hlt] at h4
    simp only [Option.map_some, Option.getD_some] at h4
    obtain ⟨e, he, hb⟩ := Array.any_eq_true'.1 h4
    simp only [Bool.and_eq_true, beq_iff_eq] at hb
    exact ⟨_, Array.getElem?_eq_getElem hlt, e, he, hb.1, hb.2⟩
  have hdag : ∀ i d, Waits ops i d → d < i := fun i d ⟨o, ho, e, he, hb, hd⟩ => by
    have hi : i < ops.size := (Array.getElem?_eq_some_iff.1 ho).1
    obtain ⟨o', ho', _, hh, _⟩ := hop i hi
    rw [ho] at ho'
    cases ho'
    subst hd
    exact hh e he hb
  have hinj : ∀ i j o o' d, i < m → j < m → ops[i]? = some o → ops[j]? = some o' → o.dst = some d → o'.dst = some d → i = j := fun i j o o' d hi hj ho ho' hd hd' => by
    have := h3 i hi j hj
    rw [ho, ho'] at this
    simp [hd, hd'] at this
    rcases this with this | this
    · exact this
    · exfalso
      obtain ⟨o2, ho2, _, _, hx⟩ := hop i (by omega)
      rw [ho] at ho2
      cases ho2
      rcases hx with hx | ⟨_, hx⟩ | ⟨hx, _⟩
      · omega
      · rw [hd] at hx; cases hx
      · exact hx this
  have hwl : ∀ j, j < m → ∃ i, j < i ∧ i ≤ m ∧ Waits ops i j := fun j hj => by
    have := h2 j hj
    obtain ⟨i, hi, hb⟩ := List.any_eq_true.1 this
    rw [List.mem_range] at hi
    rw [Bool.and_eq_true, decide_eq_true_eq] at hb
    obtain ⟨hji, hb⟩ := hb
    obtain ⟨o, ho, _⟩ := hop i (by omega)
    rw [ho] at hb
    simp only [Option.map_some, Option.getD_some] at hb
    obtain ⟨e, he, hb⟩ := Array.any_eq_true'.1 hb
    simp only [Bool.and_eq_true, beq_iff_eq] at hb
    exact ⟨i, hji, by omega, o, ho, e, he, hb.1, hb.2⟩
  have hget : ∀ (L : Array Bool) (i : Nat), i < L.size → L.getD i true = L.getD i false := fun L i hi => by simp [Array.getD, hi]
  refine wpIn_region_any hm ?_
  refine any_go hdag (fun L a' w' => (L.getD m true = true ∧ (∀ i, i < m → L.getD i true = true) ∧ Q .normal a' w') ∨ (L.getD m true = false ∧ InvQ V B q q2 ops a m L a' w')) ?_ ?_ ops.size _ a _ (by simp) (by simp) ?_
  · intro L a' w' i hLs hi hLi hw hJ
    obtain ⟨o, ho, hg, _, hd⟩ := hop i hi
    rcases hJ with ⟨hm1, hall, _⟩ | ⟨hm1, hI⟩
    · exfalso
      rcases Nat.lt_or_ge i m with h | h
      · rw [hall i h] at hLi; cases hLi
      · obtain rfl : i = m := by omega
        rw [hm1] at hLi; cases hLi
    have hwant : Region.wanted o (yielded ops a'.tmps) = true := by simp [Region.wanted, hg]
    unfold wpOpIn
    rw [ho]
    simp only [hwant, if_true]
    by_cases him : i = m
    · subst him
      have hlist' : ∀ t j, j < i → i - j ≤ t → L.getD j false = true := fun t => by
        induction t with
        | zero => intro j hj ht; omega
        | succ t ih =>
          intro j hj ht
          obtain ⟨q, hjq, hqi, hwq⟩ := hwl j hj
          rcases Nat.lt_or_ge q i with hlt | hge
          · exact hI.closed q j hlt hwq (ih q hlt (by omega))
          · obtain rfl : q = i := by omega
            exact hw j hwq
      have hlist : ∀ j, j < i → L.getD j false = true := fun j hj => hlist' _ j hj (Nat.le_refl _)
      have hph : ph L q q2 = 2 := by unfold ph; rw [hlist q (by omega), hlist q2 hq2]; rfl
      have hbase := hI.base
      have hval := hI.val
      rw [hph] at hbase hval
      refine Oper.wpIn_mono ?_ (hlast o a' w' ho hbase hI.defers hI.size (fun x hx => hI.rest x (fun q' oq hq' hoq hd => absurd hd (restB_spec hx q' oq hq' hoq))) (fun j d hj hjm => by obtain ⟨_, oj, hoj, hdj⟩ := depB_spec hj; exact hval j oj d hjm hoj (hlist j hjm) hdj))
      intro a2 w2 hq
      refine .inl ⟨by simp [Array.getD, hLs, hi], fun j hj => ?_, hq⟩
      have := hlist j hj
      have hjs : j < L.size := by omega
      have hne : i ≠ j := by omega
      simp [Array.getD, hjs, Array.getElem_setIfInBounds, hne] at this ⊢
      exact this
    · have hlt : i < m := by omega
      have hms : m < L.size := by omega
      have hqs : q < L.size := by omega
      have hqs2 : q2 < L.size := by omega
      have hrest : ∀ x, restB ops m x = true → a'.eval (.tmp x) = a.eval (.tmp x) := fun x hx => hI.rest x (fun q' oq hq' hoq hd => absurd hd (restB_spec hx q' oq hq' hoq))
      have hdep : ∀ j dj, depB ops i j dj = true → j < m → V (ph L q q2) j (a'.eval (.tmp dj)) w' := fun j dj hj hjm => by
        obtain ⟨hwj, oj, hoj, hdj⟩ := depB_spec hj
        exact hI.val j oj dj hjm hoj (hw j hwj) hdj
      -- what both ways share
      have close : ∀ d, o.dst = some d → d < a.tmps.size → ∀ v w2, B (ph (L.setIfInBounds i true) q q2) w2 → V (ph (L.setIfInBounds i true) q q2) i v w2 → (∀ j v', j ≠ i → V (ph L q q2) j v' w' → V (ph (L.setIfInBounds i true) q q2) j v' w2) → InvQ V B q q2 ops a m (L.setIfInBounds i true) (a'.put (some d) v) w2 := by
        intro d hdd hdl v w2 hb hv hVV
        refine ⟨hb, by simpa [Act.put] using hI.defers, by simpa [Act.put] using hI.size, fun x hx => ?_, fun j oj dj hj hoj hLj hdj => ?_, fun j dj hj hwj hLj => ?_⟩
        · have hxd : x ≠ d := fun e => by
            have := hx i o hlt ho (by rw [hdd, e])
            have his : i < L.size := by omega
            simp [Array.getD, his] at this
          rw [eval_put_other a' d x v hxd]
          refine hI.rest x fun q' oq hq' hoq hd => ?_
          have hqs' : q' < L.size := by omega
          have hiq : i ≠ q' := fun e => hxd (by
            subst e
            rw [ho] at hoq
            cases hoq
            rw [hdd] at hd
            exact (Option.some.inj hd).symm)
          have := hx q' oq hq' hoq hd
          simpa [Array.getD, hqs', Array.getElem_setIfInBounds, hiq] using this
        · by_cases hij : j = i
          · subst hij
            rw [ho] at hoj
            cases hoj
            rw [hdd] at hdj
            cases hdj
            rw [eval_put_same a' d v (by rw [hI.size]; exact hdl)]
            exact hv
          · rw [eval_put_other a' d dj v (fun e => hij (hinj j i oj o d hj hlt hoj ho (by rw [hdj, e]) hdd))]
            have hjs : j < L.size := by omega
            have hne : i ≠ j := fun e => hij e.symm
            have hLj' : L.getD j false = true := by simpa [Array.getD, hjs, Array.getElem_setIfInBounds, hne] using hLj
            exact hVV j _ hij (hI.val j oj dj hj hoj hLj' hdj)
        · have hup : L.getD dj false = true → (L.setIfInBounds i true).getD dj false = true := fun h => by
            by_cases hs : dj < L.size
            · by_cases hid : i = dj
              · subst hid
                simp [Array.getD, hs]
              · simpa [Array.getD, hs, Array.getElem_setIfInBounds, hid] using h
            · simp [Array.getD, hs] at h
          refine hup ?_
          by_cases hij : j = i
          · subst hij
            exact hw dj hwj
          · have hjs : j < L.size := by omega
            have hne : i ≠ j := fun e => hij e.symm
            have hLj' : L.getD j false = true := by simpa [Array.getD, hjs, Array.getElem_setIfInBounds, hne] using hLj
            exact hI.closed j dj hj hwj hLj'
      have closeN : o.dst = none → ∀ w2, B (ph (L.setIfInBounds i true) q q2) w2 → (∀ j oj d, ops[j]? = some oj → oj.dst = some d → V (ph L q q2) j (a'.eval (.tmp d)) w' → V (ph (L.setIfInBounds i true) q q2) j (a'.eval (.tmp d)) w2) → InvQ V B q q2 ops a m (L.setIfInBounds i true) a' w2 := by
        intro hdn w2 hb hVV
        refine ⟨hb, hI.defers, hI.size, fun x hx => ?_, fun j oj dj hj hoj hLj hdj => ?_, fun j dj hj hwj hLj => ?_⟩
        · refine hI.rest x fun q' oq hq' hoq hd => ?_
          have hqs' : q' < L.size := by omega
          have hiq : i ≠ q' := fun e => by
            subst e
            rw [ho] at hoq
            cases hoq
            rw [hdn] at hd
            cases hd
          have := hx q' oq hq' hoq hd
          simpa [Array.getD, hqs', Array.getElem_setIfInBounds, hiq] using this
        · have hij : j ≠ i := fun e => by
            subst e
            rw [ho] at hoj
            cases hoj
            rw [hdn] at hdj
            cases hdj
          have hjs : j < L.size := by omega
          have hne : i ≠ j := fun e => hij e.symm
          have hLj' : L.getD j false = true := by simpa [Array.getD, hjs, Array.getElem_setIfInBounds, hne] using hLj
          exact hVV j oj dj hoj hdj (hI.val j oj dj hj hoj hLj' hdj)
        · have hup : L.getD dj false = true → (L.setIfInBounds i true).getD dj false = true := fun h => by
            by_cases hs : dj < L.size
            · by_cases hid : i = dj
              · subst hid
                simp [Array.getD, hs]
              · simpa [Array.getD, hs, Array.getElem_setIfInBounds, hid] using h
            · simp [Array.getD, hs] at h
          refine hup ?_
          by_cases hij : j = i
          · subst hij
            exact hw dj hwj
          · have hjs : j < L.size := by omega
            have hne : i ≠ j := fun e => hij e.symm
            have hLj' : L.getD j false = true := by simpa [Array.getD, hjs, Array.getElem_setIfInBounds, hne] using hLj
            exact hI.closed j dj hj hwj hLj'
      have hm2 : (L.setIfInBounds i true).getD m true = false := by simpa [Array.getD, hms, Array.getElem_setIfInBounds, him] using hm1
      have hset : ∀ x, x < L.size → i ≠ x → (L.setIfInBounds i true).getD x false = L.getD x false := fun x hx hne => by
        simp [Array.getD, hx, Array.getElem_setIfInBounds, hne]
      have hseti : (L.setIfInBounds i true).getD i false = true := by
        have : i < L.size := by omega
        simp [Array.getD, this]
      have hLi' : L.getD i false = false := by rw [← hget L i (by omega)]; exact hLi
      by_cases hiq : i = q
      · subst hiq
        have hL2 : L.getD q2 false = false := by
          cases h : L.getD q2 false with
          | false => rfl
          | true => have := hI.closed q2 i hq2 hw21 h; rw [hLi'] at this; cases this
        have p0 : ph L i q2 = 0 := by unfold ph; rw [hLi', hL2]; rfl
        have p1 : ph (L.setIfInBounds i true) i q2 = 1 := by unfold ph; rw [hseti, hset q2 hqs2 (by omega), hL2]; rfl
        obtain ⟨d, hdd, hdl⟩ : ∃ d, o.dst = some d ∧ d < a.tmps.size := by
          rcases hd with hd | ⟨hd, _⟩ | ⟨_, hd⟩
          · exact absurd hd him
          · omega
          · exact hd
        have hbase := hI.base
        rw [p0] at hdep hbase
        refine Oper.wpIn_mono ?_ (hspec o a' w' ho hbase hI.defers hrest hdep)
        rintro a2 w2 ⟨v, rfl, hb, hv, hVV⟩
        rw [hdd]
        exact .inr ⟨hm2, close d hdd hdl v w2 (by rw [p1]; exact hb) (by rw [p1]; exact hv) (fun j v' hj h => by rw [p1]; exact hVV j v' hj (by rw [p0] at h; exact h))⟩
      · by_cases hiq2 : i = q2
        · subst hiq2
          have hL1 : L.getD q false = true := hw q hw21
          have p0 : ph L q i = 1 := by unfold ph; rw [hLi', hL1]; rfl
          have p1 : ph (L.setIfInBounds i true) q i = 2 := by unfold ph; rw [hseti, hset q hqs (by omega), hL1]; rfl
          have hdn : o.dst = none := by
            rcases hd with hd | ⟨_, hd⟩ | ⟨hd, _⟩
            · exact absurd hd him
            · exact hd
            · exact absurd rfl hd
          have hbase := hI.base
          rw [p0] at hdep hbase
          refine Oper.wpIn_mono ?_ (hspec2 o a' w' ho hbase hI.defers hrest hdep)
          rintro a2 w2 ⟨rfl, hb, hVV⟩
          exact .inr ⟨hm2, closeN hdn w2 (by rw [p1]; exact hb) (fun j oj d h1 h2 h => by rw [p1]; exact hVV j oj d h1 h2 (by rw [p0] at h; exact h))⟩
        · have hsame : ph (L.setIfInBounds i true) q q2 = ph L q q2 := by unfold ph; rw [hset q hqs hiq, hset q2 hqs2 hiq2]
          obtain ⟨d, hdd, hdl⟩ : ∃ d, o.dst = some d ∧ d < a.tmps.size := by
            rcases hd with hd | ⟨hd, _⟩ | ⟨_, hd⟩
            · exact absurd hd him
            · exact absurd hd hiq2
            · exact hd
          have hnw : ph L q q2 = 2 → ¬ Waits ops q2 i := fun h2 hwt => by
            have hL2 : L.getD q2 false = true := by
              unfold ph at h2
              cases h5 : L.getD q2 false with
              | true => rfl
              | false => rw [h5] at h2; cases h6 : L.getD q false <;> rw [h6] at h2 <;> cases h2
            have := hI.closed q2 i hq2 hwt hL2
            rw [hLi'] at this
            cases this
          refine Oper.wpIn_mono ?_ (hstep (ph L q q2) i o a' w' hlt hiq hiq2 hnw ho hI.base hI.defers hrest hdep)
          rintro a2 w2 ⟨v, rfl, hbl, hv⟩
          rw [hdd]
          exact .inr ⟨hm2, close d hdd hdl v w2 (by rw [hsame]; exact hBm _ _ _ hI.base hbl) (by rw [hsame]; exact hv) (fun j v' _ h => by rw [hsame]; exact hVm _ _ _ _ _ h hbl)⟩
  · rintro L a' w' hLs hall (⟨_, _, hq⟩ | ⟨hm1, _⟩)
    · exact hq
    · rw [hall m (by omega)] at hm1; cases hm1
  · have hq0 : ph (Array.replicate ops.size false) q q2 = 0 := by
      have e1 : q < m + 1 := by omega
      have e2 : q2 < m + 1 := by omega
      simp [ph, Array.getD, hsz, e1, e2]
    refine .inr ⟨by simp [Array.getD, hsz], by rw [hq0]; exact hB, rfl, rfl, fun _ _ => rfl, fun i o d hi ho hL _ => ?_, fun i d hi _ hL => ?_⟩
    all_goals
      have : i < ops.size := by omega
      simp [Array.getD, this] at hL
end Go.Proofs.Ythadapbekmmgpaa.XReg
