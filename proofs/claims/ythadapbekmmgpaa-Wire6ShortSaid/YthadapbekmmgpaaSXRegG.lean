/- A region that draws its order, some of whose operations are guarded by one that wants them all: told once for each operation. No condition but those typed. Own text. -/
import Derived.Test.YthadapbekmmgpaaSXReg
set_option linter.unusedVariables false
set_option linter.unusedSimpArgs false
namespace Go.Proofs.Ythadapbekmmgpaa.XReg
open Go Go.RowKit
variable {F : Fence} {n : Nat} {P : Program} {ops : Array Oper} {Q : Exit → Act → World → Prop}
def okG (ops : Array Oper) (m k : Nat) (gs : List (Nat × Bool)) : Bool :=
  (ops.size == m + 1) && (List.range ops.size).all (fun i => ((ops[i]?).map (fun o => (o.guard.isNone || gs.any (fun q => o.guard == some q && decide (q.1 < m) && o.after.any (fun e => Region.binds .any e && e.on == q.1))) && o.after.all (fun e => !Region.binds .any e || decide (e.on < i)) && (i == m || (o.dst.map (fun d => decide (d < k))).getD false))).getD false) &&
  (List.range m).all (fun j => (List.range (m + 1)).any (fun i => decide (j < i) && ((ops[i]?).map (fun o => o.after.any (fun e => Region.binds .any e && e.on == j))).getD false)) &&
  (List.range m).all (fun i => (List.range m).all (fun j => i == j || ((ops[i]?).map (·.dst) != (ops[j]?).map (·.dst))))
theorem region_goG {id : Nat} {a : Act} {w : World} (hm : P.follows .mixedOrders = true) (m : Nat) (gs : List (Nat × Bool)) (hok : okG ops m a.tmps.size gs = true)
    (V : Nat → Value → World → Prop) (B : World → Prop) (hgV : ∀ q, q ∈ gs → ∀ v w', V q.1 v w' → v = .bool q.2) (hVm : ∀ i v w w', V i v w → Below w.heap.size w w' → V i v w') (hBm : ∀ w w', B w → Below w.heap.size w w' → B w') (hB : B { w with drawn := w.drawn + 1 })
    (hstep : ∀ i o a' w', i < m → ops[i]? = some o → B w' → a'.defers = a.defers → (∀ x, (∀ i o, i < m → ops[i]? = some o → o.dst ≠ some x) → a'.eval (.tmp x) = a.eval (.tmp x)) → (∀ j oj d, j < m → Waits ops i j → ops[j]? = some oj → oj.dst = some d → V j (a'.eval (.tmp d)) w') →
      o.wpIn F n P a' w' (fun a2 w2 => ∃ v, a2 = a'.put o.dst v ∧ Below w'.heap.size w' w2 ∧ V i v w2) Q)
    (hlast : ∀ o a' w', ops[m]? = some o → B w' → a'.defers = a.defers → a'.tmps.size = a.tmps.size → (∀ x, (∀ i o, i < m → ops[i]? = some o → o.dst ≠ some x) → a'.eval (.tmp x) = a.eval (.tmp x)) → (∀ j oj d, j < m → ops[j]? = some oj → oj.dst = some d → V j (a'.eval (.tmp d)) w') →
      o.wpIn F n P a' w' (fun a2 w2 => Q .normal a2 w2) Q) : (Code.region id ops true).wpIn F n P Q a w := by
  unfold okG at hok
  simp only [Bool.and_eq_true, beq_iff_eq, List.all_eq_true, List.mem_range] at hok
  obtain ⟨⟨⟨hsz, h1⟩, h2⟩, h3⟩ := hok
  have hop : ∀ i, i < ops.size → ∃ o, ops[i]? = some o ∧ (o.guard = none ∨ ∃ q, q ∈ gs ∧ o.guard = some q ∧ q.1 < m ∧ Waits ops i q.1) ∧ (∀ e ∈ o.after, Region.binds .any e = true → e.on < i) ∧ (i = m ∨ ∃ d, o.dst = some d ∧ d < a.tmps.size) := fun i hi => by
    have := h1 i hi
    have hoi := Array.getElem?_eq_getElem hi
    rw [Array.getElem?_eq_getElem hi] at this ⊢
    simp only [Option.map_some, Option.getD_some, Bool.and_eq_true, Bool.or_eq_true, beq_iff_eq, Option.isNone_iff_eq_none] at this
    obtain ⟨⟨g1, g2⟩, g3⟩ := this
    refine ⟨_, rfl, g1.imp (fun h => h) (fun h => by obtain ⟨q, hq, hb⟩ := List.any_eq_true.1 h; simp only [Bool.and_eq_true, beq_iff_eq, decide_eq_true_eq] at hb; obtain ⟨⟨b1, b2⟩, b3⟩ := hb; obtain ⟨e, he, hb⟩ := Array.any_eq_true'.1 b3; simp only [Bool.and_eq_true, beq_iff_eq] at hb; exact ⟨q, hq, b1, b2, _, hoi, e, he, hb.1, hb.2⟩), fun e he hb => by have := (Array.all_eq_true'.1 g2) e he; rw [hb] at this; simpa using this, ?_⟩
    rcases g3 with g3 | g3
    · exact .inl g3
    · cases hd : ops[i].dst with
      | none => rw [hd] at g3; simp at g3
      | some d => rw [hd] at g3; exact .inr ⟨d, rfl, by simpa using g3⟩
  have hdag : ∀ i d, Waits ops i d → d < i := fun i d ⟨o, ho, e, he, hb, hd⟩ => by
    have hi : i < ops.size := (Array.getElem?_eq_some_iff.1 ho).1
    obtain ⟨o', ho', _, hh, _⟩ := hop i hi
    rw [ho] at ho'
    cases ho'
    subst hd
    exact hh e he hb
  have hinj : ∀ i j o o' d, i < m → j < m → ops[i]? = some o → ops[j]? = some o' → o.dst = some d → o'.dst = some d → i = j := fun i j o o' d hi hj ho ho' hd hd' => by
    have := h3 i hi j hj
    rw [ho, ho'] at this
    simp [hd, hd'] at this
    exact this
  have hwl : ∀ j, j < m → ∃ i, j < i ∧ i ≤ m ∧ Waits ops i j := fun j hj => by
    have := h2 j hj
    obtain ⟨i, hi, hb⟩ := List.any_eq_true.1 this
    rw [List.mem_range] at hi
    rw [Bool.and_eq_true, decide_eq_true_eq] at hb
    obtain ⟨hji, hb⟩ := hb
    obtain ⟨o, ho, _⟩ := hop i (by omega)
    rw [ho] at hb
    simp only [Option.map_some, Option.getD_some] at hb
    obtain ⟨e, he, hb⟩ := Array.any_eq_true'.1 hb
    simp only [Bool.and_eq_true, beq_iff_eq] at hb
    exact ⟨i, hji, by omega, o, ho, e, he, hb.1, hb.2⟩
  have hget : ∀ (L : Array Bool) (i : Nat), i < L.size → L.getD i true = L.getD i false := fun L i hi => by simp [Array.getD, hi]
  refine wpIn_region_any hm ?_
  refine any_go hdag (fun L a' w' => (L.getD m true = true ∧ (∀ i, i < m → L.getD i true = true) ∧ Q .normal a' w') ∨ (L.getD m true = false ∧ Inv V B ops a m L a' w')) ?_ ?_ ops.size _ a _ (by simp) (by simp) ?_
  · intro L a' w' i hLs hi hLi hw hJ
    obtain ⟨o, ho, hg, _, hd⟩ := hop i hi
    rcases hJ with ⟨hm1, hall, _⟩ | ⟨hm1, hI⟩
    · exfalso
      rcases Nat.lt_or_ge i m with h | h
      · rw [hall i h] at hLi; cases hLi
      · obtain rfl : i = m := by omega
        rw [hm1] at hLi; cases hLi
    have hwant : Region.wanted o (yielded ops a'.tmps) = true := by
      rcases hg with hg | ⟨⟨gd, gb⟩, hgq, hg, hgm, hwg⟩
      · simp [Region.wanted, hg]
      · obtain ⟨og, hog, _, _, hdg⟩ := hop gd (by omega)
        obtain ⟨dg, hdg, hdl⟩ := hdg.resolve_left (by omega)
        have hv := hgV (gd, gb) hgq _ _ (hI.val gd og dg hgm hog (hw gd hwg) hdg)
        dsimp only at hgm hwg hv
        have hsz2 : dg < a'.tmps.size := by rw [hI.size]; exact hdl
        have hv2 : a'.tmps[dg]? = some (.bool gb) := by
          simp only [Act.eval, Array.getD, hsz2, dif_pos] at hv
          rw [Array.getElem?_eq_getElem hsz2]
          exact congrArg some hv
        simp [Region.wanted, hg, yielded, hog, hdg, hv2]
    unfold wpOpIn
    rw [ho]
    simp only [hwant, if_true]
    by_cases him : i = m
    · subst him
      have hlist' : ∀ t j, j < i → i - j ≤ t → L.getD j false = true := fun t => by
        induction t with
        | zero => intro j hj ht; omega
        | succ t ih =>
          intro j hj ht
          obtain ⟨q, hjq, hqi, hwq⟩ := hwl j hj
          rcases Nat.lt_or_ge q i with hlt | hge
          · exact hI.closed q j hlt hwq (ih q hlt (by omega))
          · obtain rfl : q = i := by omega
            exact hw j hwq
      have hlist : ∀ j, j < i → L.getD j false = true := fun j hj => hlist' _ j hj (Nat.le_refl _)
      refine Oper.wpIn_mono ?_ (hlast o a' w' ho hI.base hI.defers hI.size (fun x hx => hI.rest x (fun q oq hq hoq hd => absurd hd (hx q oq hq hoq))) (fun j oj d hj hoj hdj => hI.val j oj d hj hoj (hlist j hj) hdj))
      intro a2 w2 hq
      refine .inl ⟨by simp [Array.getD, hLs, hi], fun j hj => ?_, hq⟩
      have := hlist j hj
      have hjs : j < L.size := by omega
      have hne : i ≠ j := by omega
      simp [Array.getD, hjs, Array.getElem_setIfInBounds, hne] at this ⊢
      exact this
    · have hlt : i < m := by omega
      obtain ⟨d, hdd, hdl⟩ := hd.resolve_left him
      refine Oper.wpIn_mono ?_ (hstep i o a' w' hlt ho hI.base hI.defers (fun x hx => hI.rest x (fun q oq hq hoq hd => absurd hd (hx q oq hq hoq))) (fun j oj dj hj hwj hoj hdj => hI.val j oj dj hj hoj (hw j hwj) hdj))
      rintro a2 w2 ⟨v, rfl, hbl, hv⟩
      rw [hdd]
      have hms : m < L.size := by omega
      refine .inr ⟨by simpa [Array.getD, hms, Array.getElem_setIfInBounds, him] using hm1, hBm _ _ hI.base hbl, by simpa [Act.put] using hI.defers, by simpa [Act.put] using hI.size, fun x hx => ?_, fun j oj dj hj hoj hLj hdj => ?_, fun j dj hj hwj hLj => ?_⟩
      · have hxd : x ≠ d := fun e => by
          have := hx i o hlt ho (by rw [hdd, e])
          have his : i < L.size := by omega
          simp [Array.getD, his] at this
        rw [eval_put_other a' d x v hxd]
        refine hI.rest x fun q oq hq hoq hd => ?_
        have hqs : q < L.size := by omega
        have hiq : i ≠ q := fun e => hxd (by
          subst e
          rw [ho] at hoq
          cases hoq
          rw [hdd] at hd
          exact (Option.some.inj hd).symm)
        have := hx q oq hq hoq hd
        simpa [Array.getD, hqs, Array.getElem_setIfInBounds, hiq] using this
      · by_cases hij : j = i
        · subst hij
          rw [ho] at hoj
          cases hoj
          rw [hdd] at hdj
          cases hdj
          rw [eval_put_same a' d v (by rw [hI.size]; exact hdl)]
          exact hv
        · rw [eval_put_other a' d dj v (fun e => hij (hinj j i oj o d hj hlt hoj ho (by rw [hdj, e]) hdd))]
          have hjs : j < L.size := by omega
          have hne : i ≠ j := fun e => hij e.symm
          have hLj' : L.getD j false = true := by simpa [Array.getD, hjs, Array.getElem_setIfInBounds, hne] using hLj
          exact hVm _ _ _ _ (hI.val j oj dj hj hoj hLj' hdj) hbl
      · have hup : L.getD dj false = true → (L.setIfInBounds i true).getD dj false = true := fun h => by
          by_cases hs : dj < L.size
          · by_cases hid : i = dj
            · subst hid
              simp [Array.getD, hs]
            · simpa [Array.getD, hs, Array.getElem_setIfInBounds, hid] using h
          · simp [Array.getD, hs] at h
        refine hup ?_
        by_cases hij : j = i
        · subst hij
          exact hw dj hwj
        · have hjs : j < L.size := by omega
          have hne : i ≠ j := fun e => hij e.symm
          have hLj' : L.getD j false = true := by simpa [Array.getD, hjs, Array.getElem_setIfInBounds, hne] using hLj
          exact hI.closed j dj hj hwj hLj'
  · rintro L a' w' hLs hall (⟨_, _, hq⟩ | ⟨hm1, _⟩)
    · exact hq
    · rw [hall m (by omega)] at hm1; cases hm1
  · refine .inr ⟨by simp [Array.getD, hsz], hB, rfl, rfl, fun _ _ => rfl, fun i o d hi ho hL _ => ?_, fun i d hi _ hL => ?_⟩
    all_goals
      have : i < ops.size := by omega
      simp [Array.getD, this] at hL
/-- As region_runD, of a region whose guards all wait for one operation that wants what they want. -/
theorem region_runG {id : Nat} {a : Act} {w : World} (hm : P.follows .mixedOrders = true) (gs : List (Nat × Bool)) (m : Nat) (hok : okG ops m a.tmps.size gs = true)
    (V : Nat → Value → World → Prop) (B : World → Prop) (hgV : ∀ q, q ∈ gs → ∀ v w', V q.1 v w' → v = .bool q.2) (hVm : ∀ i v w w', V i v w → Below w.heap.size w w' → V i v w') (hBm : ∀ w w', B w → Below w.heap.size w w' → B w') (hB : B { w with drawn := w.drawn + 1 })
    (hstep : ∀ i o a' w', i < m → ops[i]? = some o → B w' → a'.defers = a.defers → (∀ x, restB ops m x = true → a'.eval (.tmp x) = a.eval (.tmp x)) → (∀ j d, depB ops i j d = true → j < m → V j (a'.eval (.tmp d)) w') →
      o.wpIn F n P a' w' (fun a2 w2 => ∃ v, a2 = a'.put o.dst v ∧ Below w'.heap.size w' w2 ∧ V i v w2) Q)
    (hlast : ∀ o a' w', ops[m]? = some o → B w' → a'.defers = a.defers → a'.tmps.size = a.tmps.size → (∀ x, restB ops m x = true → a'.eval (.tmp x) = a.eval (.tmp x)) → (∀ j d, depB ops m j d = true → j < m → V j (a'.eval (.tmp d)) w') →
      o.wpIn F n P a' w' (fun a2 w2 => Q .normal a2 w2) Q) : (Code.region id ops true).wpIn F n P Q a w :=
  region_goG hm m gs hok V B hgV hVm hBm hB
    (fun i o a' w' hi ho hb hdf hr hd => hstep i o a' w' hi ho hb hdf (fun x hx => hr x (restB_spec hx)) (fun j d hj hjm => by obtain ⟨h1, oj, h2, h3⟩ := depB_spec hj; exact hd j oj d hjm h1 h2 h3))
    (fun o a' w' ho hb hdf hsz hr hd => hlast o a' w' ho hb hdf hsz (fun x hx => hr x (restB_spec hx)) (fun j d hj hjm => by obtain ⟨_, oj, h2, h3⟩ := depB_spec hj; exact hd j oj d hjm h2 h3))
end Go.Proofs.Ythadapbekmmgpaa.XReg
