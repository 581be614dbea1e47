/- A region that draws its order, told once for each operation (no order is gone through): what holds of the slots and of the world whatever has come up; the last operation waits for all. In a fence or not. No condition but those typed. Own text. -/
import Derived.Test.YthadapbekmmgpaaDW
import Derived.OrdersIn
import Derived.ControlIn
import Derived.Below
import Derived.RowKit
import Derived.Tactics
import Derived.TacticsIn
import Derived.RangeFuncCalls
set_option linter.unusedVariables false
set_option linter.unusedSimpArgs false
namespace Go.Proofs.Ythadapbekmmgpaa.XReg
open Go Go.RowKit
variable {F : Fence} {n : Nat} {P : Program} {ops : Array Oper} {Q : Exit → Act → World → Prop}
/-- Operation i waits for operation d. -/
def Waits (ops : Array Oper) (i d : Nat) : Prop := ∃ o, ops[i]? = some o ∧ ∃ e ∈ o.after, Region.binds .any e = true ∧ e.on = d
theorem ready_spec {L : Array Bool} {i : Nat} (h : i ∈ Region.ready .any ops L) : i < ops.size ∧ L.getD i true = false ∧ ∀ d, Waits ops i d → L.getD d false = true := by
  unfold Region.ready at h
  simp only [List.mem_filter, List.mem_range, Bool.and_eq_true, Bool.not_eq_true'] at h
  obtain ⟨h1, h2, h3⟩ := h
  refine ⟨h1, h2, fun d ⟨o, ho, e, he, hb, hd⟩ => ?_⟩
  rw [ho] at h3
  simp only [Option.map_some, Option.getD_some] at h3
  have := (Array.all_eq_true'.1 h3) e he
  subst hd
  simpa [hb] using this
theorem ready_mem {L : Array Bool} {i : Nat} (h1 : i < ops.size) (h2 : L.getD i true = false) (h3 : ∀ d, Waits ops i d → L.getD d false = true) : i ∈ Region.ready .any ops L := by
  unfold Region.ready
  simp only [List.mem_filter, List.mem_range, Bool.and_eq_true, Bool.not_eq_true']
  refine ⟨h1, h2, ?_⟩
  rw [Array.getElem?_eq_getElem h1]
  simp only [Option.map_some, Option.getD_some]
  rw [Array.all_eq_true']
  intro e he
  cases hb : Region.binds .any e with
  | false => rfl
  | true => simpa using h3 e.on ⟨ops[i], Array.getElem?_eq_getElem h1, e, he, hb, rfl⟩
theorem ready_nil {L : Array Bool} (hL : L.size = ops.size) (hdag : ∀ i d, Waits ops i d → d < i) (h : Region.ready .any ops L = []) : ∀ i, i < ops.size → L.getD i true = true := by
  intro i
  induction i using Nat.strongRecOn with
  | ind i ih =>
    intro hi
    cases hb : L.getD i true with
    | true => rfl
    | false =>
      have : i ∈ Region.ready .any ops L := ready_mem hi hb fun d hd => by
        have hlt := hdag i d hd
        have := ih d hlt (Nat.lt_trans hlt hi)
        have hs : d < L.size := by omega
        simpa [Array.getD, hs] using this
      rw [h] at this
      cases this
theorem count_set {L : Array Bool} {i : Nat} (hi : i < L.size) (h : L.getD i true = false) : (L.setIfInBounds i true).toList.count false + 1 = L.toList.count false := by
  have hi' : i < L.toList.length := by simpa using hi
  have hv : L.toList[i] = false := by simpa [Array.getD, hi] using h
  rw [Array.toList_setIfInBounds, List.count_set hi', hv]
  have hp : 0 < L.toList.count false := List.count_pos_iff.2 (by
    have := List.getElem_mem hi'
    rwa [hv] at this)
  rw [show (if (false == false) = true then 1 else 0) = 1 from rfl, show (if (true == false) = true then 1 else 0) = 0 from rfl]
  omega
theorem any_go (hdag : ∀ i d, Waits ops i d → d < i) (J : Array Bool → Act → World → Prop)
    (hstep : ∀ L a w i, L.size = ops.size → i < ops.size → L.getD i true = false → (∀ d, Waits ops i d → L.getD d false = true) → J L a w → wpOpIn F n P ops Q i (J (L.setIfInBounds i true)) a w)
    (hend : ∀ L a w, L.size = ops.size → (∀ i, i < ops.size → L.getD i true = true) → J L a w → Q .normal a w) :
    ∀ (fuel : Nat) (L : Array Bool) (a : Act) (w : World), L.size = ops.size → L.toList.count false ≤ fuel → J L a w → wpAnyIn F n P .any ops Q fuel L a w
  | 0, L, a, w, hs, hc, hJ => by
    have hall : ∀ i, i < ops.size → L.getD i true = true := fun i hi => by
      cases hb : L.getD i true with
      | true => rfl
      | false => have := count_set (by omega) hb; omega
    refine ⟨?_, hend L a w hs hall hJ⟩
    cases hr : Region.ready .any ops L with
    | nil => rfl
    | cons x xs =>
      have := ready_spec (show x ∈ Region.ready .any ops L by rw [hr]; exact List.mem_cons_self)
      rw [hall x this.1] at this
      exact absurd this.2.1 (by decide)
  | fuel + 1, L, a, w, hs, hc, hJ => by
    refine ⟨fun hr => hend L a w hs (ready_nil hs hdag hr) hJ, fun i hi => ?_⟩
    obtain ⟨h1, h2, h3⟩ := ready_spec hi
    refine wpOpIn_mono (fun a' w' hJ' => ?_) (hstep L a w i hs h1 h2 h3 hJ)
    exact any_go hdag J hstep hend fuel _ a' w' (by simpa using hs) (by have := count_set (L := L) (by omega) h2; omega) hJ'
/-- What holds while the operations ahead of the last come up. -/
structure Inv (V : Nat → Value → World → Prop) (B : World → Prop) (ops : Array Oper) (a0 : Act) (m : Nat) (L : Array Bool) (a : Act) (w : World) : Prop where
  base : B w
  defers : a.defers = a0.defers
  size : a.tmps.size = a0.tmps.size
  rest : ∀ x, (∀ i o, i < m → ops[i]? = some o → o.dst = some x → L.getD i false = false) → a.eval (.tmp x) = a0.eval (.tmp x)
  val : ∀ i o d, i < m → ops[i]? = some o → L.getD i false = true → o.dst = some d → V i (a.eval (.tmp d)) w
  closed : ∀ i d, i < m → Waits ops i d → L.getD i false = true → L.getD d false = true
theorem eval_put_same (a : Act) (d : Nat) (v : Value) (h : d < a.tmps.size) : (a.put (some d) v).eval (.tmp d) = v := by
  simp [Act.put, Act.eval, h]
theorem eval_put_other (a : Act) (d x : Nat) (v : Value) (h : x ≠ d) : (a.put (some d) v).eval (.tmp x) = a.eval (.tmp x) := by
  simp [Act.put, Act.eval, Array.getElem?_setIfInBounds, Ne.symm h]
def okB (ops : Array Oper) (m k : Nat) : Bool :=
  (ops.size == m + 1) && (List.range ops.size).all (fun i => ((ops[i]?).map (fun o => o.guard.isNone && o.after.all (fun e => !Region.binds .any e || decide (e.on < i)) && (i == m || (o.dst.map (fun d => decide (d < k))).getD false))).getD false) &&
  (List.range m).all (fun j => (List.range (m + 1)).any (fun i => decide (j < i) && ((ops[i]?).map (fun o => o.after.any (fun e => Region.binds .any e && e.on == j))).getD false)) &&
  (List.range m).all (fun i => (List.range m).all (fun j => i == j || ((ops[i]?).map (·.dst) != (ops[j]?).map (·.dst))))
def restU (ops : Array Oper) (m i x : Nat) : Bool := (List.range m).all (fun q => ((ops[q]?).map (fun o => (o.dst != some x) || o.after.any (fun e => Region.binds .any e && e.on == i))).getD true)
theorem region_go {id : Nat} {a : Act} {w : World} (hm : P.follows .mixedOrders = true) (m : Nat) (hok : okB ops m a.tmps.size = true)
    (V : Nat → Value → World → Prop) (B : World → Prop) (hVm : ∀ i v w w', V i v w → Below w.heap.size w w' → V i v w') (hBm : ∀ w w', B w → Below w.heap.size w w' → B w') (hB : B { w with drawn := w.drawn + 1 })
    (hstep : ∀ i o a' w', i < m → ops[i]? = some o → B w' → a'.defers = a.defers → (∀ x, (∀ i o, i < m → ops[i]? = some o → o.dst ≠ some x) → a'.eval (.tmp x) = a.eval (.tmp x)) → (∀ j oj d, j < m → Waits ops i j → ops[j]? = some oj → oj.dst = some d → V j (a'.eval (.tmp d)) w') →
      o.wpIn F n P a' w' (fun a2 w2 => ∃ v, a2 = a'.put o.dst v ∧ Below w'.heap.size w' w2 ∧ V i v w2) Q)
    (hlast : ∀ o a' w', ops[m]? = some o → B w' → a'.defers = a.defers → a'.tmps.size = a.tmps.size → (∀ x, (∀ i o, i < m → ops[i]? = some o → o.dst ≠ some x) → a'.eval (.tmp x) = a.eval (.tmp x)) → (∀ j oj d, j < m → ops[j]? = some oj → oj.dst = some d → V j (a'.eval (.tmp d)) w') →
      o.wpIn F n P a' w' (fun a2 w2 => Q .normal a2 w2) Q) : (Code.region id ops true).wpIn F n P Q a w := by
  unfold okB at hok
  simp only [Bool.and_eq_true, beq_iff_eq, List.all_eq_true, List.mem_range] at hok
  obtain ⟨⟨⟨hsz, h1⟩, h2⟩, h3⟩ := hok
  have hop : ∀ i, i < ops.size → ∃ o, ops[i]? = some o ∧ o.guard = none ∧ (∀ e ∈ o.after, Region.binds .any e = true → e.on < i) ∧ (i = m ∨ ∃ d, o.dst = some d ∧ d < a.tmps.size) := fun i hi => by
    have := h1 i hi
    rw [Array.getElem?_eq_getElem hi] at this ⊢
    simp only [Option.map_some, Option.getD_some, Bool.and_eq_true, Bool.or_eq_true, beq_iff_eq, Option.isNone_iff_eq_none] at this
    obtain ⟨⟨g1, g2⟩, g3⟩ := this
    refine ⟨_, rfl, g1, fun e he hb => by have := (Array.all_eq_true'.1 g2) e he; rw [hb] at this; simpa using this, ?_⟩
    rcases g3 with g3 | g3
    · exact .inl g3
    · cases hd : ops[i].dst with
      | none => rw [hd] at g3; simp at g3
      | some d => rw [hd] at g3; exact .inr ⟨d, rfl, by simpa using g3⟩
  have hdag : ∀ i d, Waits ops i d → d < i := fun i d ⟨o, ho, e, he, hb, hd⟩ => by
    have hi : i < ops.size := (Array.getElem?_eq_some_iff.1 ho).1
    obtain ⟨o', ho', _, hh, _⟩ := hop i hi
    rw [ho] at ho'
    cases ho'
    subst hd
    exact hh e he hb
  have hinj : ∀ i j o o' d, i < m → j < m → ops[i]? = some o → ops[j]? = some o' → o.dst = some d → o'.dst = some d → i = j := fun i j o o' d hi hj ho ho' hd hd' => by
    have := h3 i hi j hj
    rw [ho, ho'] at this
    simp [hd, hd'] at this
    exact this
  have hwl : ∀ j, j < m → ∃ i, j < i ∧ i ≤ m ∧ Waits ops i j := fun j hj => by
    have := h2 j hj
    obtain ⟨i, hi, hb⟩ := List.any_eq_true.1 this
    rw [List.mem_range] at hi
    rw [Bool.and_eq_true, decide_eq_true_eq] at hb
    obtain ⟨hji, hb⟩ := hb
    obtain ⟨o, ho, _⟩ := hop i (by omega)
    rw [ho] at hb
    simp only [Option.map_some, Option.getD_some] at hb
    obtain ⟨e, he, hb⟩ := Array.any_eq_true'.1 hb
    simp only [Bool.and_eq_true, beq_iff_eq] at hb
    exact ⟨i, hji, by omega, o, ho, e, he, hb.1, hb.2⟩
  have hget : ∀ (L : Array Bool) (i : Nat), i < L.size → L.getD i true = L.getD i false := fun L i hi => by simp [Array.getD, hi]
  refine wpIn_region_any hm ?_
  refine any_go hdag (fun L a' w' => (L.getD m true = true ∧ (∀ i, i < m → L.getD i true = true) ∧ Q .normal a' w') ∨ (L.getD m true = false ∧ Inv V B ops a m L a' w')) ?_ ?_ ops.size _ a _ (by simp) (by simp) ?_
  · intro L a' w' i hLs hi hLi hw hJ
    obtain ⟨o, ho, hg, _, hd⟩ := hop i hi
    rcases hJ with ⟨hm1, hall, _⟩ | ⟨hm1, hI⟩
    · exfalso
      rcases Nat.lt_or_ge i m with h | h
      · rw [hall i h] at hLi; cases hLi
      · obtain rfl : i = m := by omega
        rw [hm1] at hLi; cases hLi
    have hwant : Region.wanted o (yielded ops a'.tmps) = true := by simp [Region.wanted, hg]
    unfold wpOpIn
    rw [ho]
    simp only [hwant, if_true]
    by_cases him : i = m
    · subst him
      have hlist' : ∀ t j, j < i → i - j ≤ t → L.getD j false = true := fun t => by
        induction t with
        | zero => intro j hj ht; omega
        | succ t ih =>
          intro j hj ht
          obtain ⟨q, hjq, hqi, hwq⟩ := hwl j hj
          rcases Nat.lt_or_ge q i with hlt | hge
          · exact hI.closed q j hlt hwq (ih q hlt (by omega))
          · obtain rfl : q = i := by omega
            exact hw j hwq
      have hlist : ∀ j, j < i → L.getD j false = true := fun j hj => hlist' _ j hj (Nat.le_refl _)
      refine Oper.wpIn_mono ?_ (hlast o a' w' ho hI.base hI.defers hI.size (fun x hx => hI.rest x (fun q oq hq hoq hd => absurd hd (hx q oq hq hoq))) (fun j oj d hj hoj hdj => hI.val j oj d hj hoj (hlist j hj) hdj))
      intro a2 w2 hq
      refine .inl ⟨by simp [Array.getD, hLs, hi], fun j hj => ?_, hq⟩
      have := hlist j hj
      have hjs : j < L.size := by omega
      have hne : i ≠ j := by omega
      simp [Array.getD, hjs, Array.getElem_setIfInBounds, hne] at this ⊢
      exact this
    · have hlt : i < m := by omega
      obtain ⟨d, hdd, hdl⟩ := hd.resolve_left him
      refine Oper.wpIn_mono ?_ (hstep i o a' w' hlt ho hI.base hI.defers (fun x hx => hI.rest x (fun q oq hq hoq hd => absurd hd (hx q oq hq hoq))) (fun j oj dj hj hwj hoj hdj => hI.val j oj dj hj hoj (hw j hwj) hdj))
      rintro a2 w2 ⟨v, rfl, hbl, hv⟩
      rw [hdd]
      have hms : m < L.size := by omega
      refine .inr ⟨by simpa [Array.getD, hms, Array.getElem_setIfInBounds, him] using hm1, hBm _ _ hI.base hbl, by simpa [Act.put] using hI.defers, by simpa [Act.put] using hI.size, fun x hx => ?_, fun j oj dj hj hoj hLj hdj => ?_, fun j dj hj hwj hLj => ?_⟩
      · have hxd : x ≠ d := fun e => by
          have := hx i o hlt ho (by rw [hdd, e])
          have his : i < L.size := by omega
          simp [Array.getD, his] at this
        rw [eval_put_other a' d x v hxd]
        refine hI.rest x fun q oq hq hoq hd => ?_
        have hqs : q < L.size := by omega
        have hiq : i ≠ q := fun e => hxd (by
          subst e
          rw [ho] at hoq
          cases hoq
          rw [hdd] at hd
          exact (Option.some.inj hd).symm)
        have := hx q oq hq hoq hd
        simpa [Array.getD, hqs, Array.getElem_setIfInBounds, hiq] using this
      · by_cases hij : j = i
        · subst hij
          rw [ho] at hoj
          cases hoj
          rw [hdd] at hdj
          cases hdj
          rw [eval_put_same a' d v (by rw [hI.size]; exact hdl)]
          exact hv
        · rw [eval_put_other a' d dj v (fun e => hij (hinj j i oj o d hj hlt hoj ho (by rw [hdj, e]) hdd))]
          have hjs : j < L.size := by omega
          have hne : i ≠ j := fun e => hij e.symm
          have hLj' : L.getD j false = true := by simpa [Array.getD, hjs, Array.getElem_setIfInBounds, hne] using hLj
          exact hVm _ _ _ _ (hI.val j oj dj hj hoj hLj' hdj) hbl
      · have hup : L.getD dj false = true → (L.setIfInBounds i true).getD dj false = true := fun h => by
          by_cases hs : dj < L.size
          · by_cases hid : i = dj
            · subst hid
              simp [Array.getD, hs]
            · simpa [Array.getD, hs, Array.getElem_setIfInBounds, hid] using h
          · simp [Array.getD, hs] at h
        refine hup ?_
        by_cases hij : j = i
        · subst hij
          exact hw dj hwj
        · have hjs : j < L.size := by omega
          have hne : i ≠ j := fun e => hij e.symm
          have hLj' : L.getD j false = true := by simpa [Array.getD, hjs, Array.getElem_setIfInBounds, hne] using hLj
          exact hI.closed j dj hj hwj hLj'
  · rintro L a' w' hLs hall (⟨_, _, hq⟩ | ⟨hm1, _⟩)
    · exact hq
    · rw [hall m (by omega)] at hm1; cases hm1
  · refine .inr ⟨by simp [Array.getD, hsz], hB, rfl, rfl, fun _ _ => rfl, fun i o d hi ho hL _ => ?_, fun i d hi _ hL => ?_⟩
    all_goals
      have : i < ops.size := by omega
      simp [Array.getD, this] at hL
def depB (ops : Array Oper) (i j d : Nat) : Bool := ((ops[i]?).map (fun o => o.after.any (fun e => Region.binds .any e && e.on == j))).getD false && ((ops[j]?).map (fun o => o.dst == some d)).getD false
def restB (ops : Array Oper) (m x : Nat) : Bool := (List.range m).all (fun i => ((ops[i]?).map (fun o => o.dst != some x)).getD true)
theorem depB_spec {ops : Array Oper} {i j d : Nat} (h : depB ops i j d = true) : Waits ops i j ∧ ∃ oj, ops[j]? = some oj ∧ oj.dst = some d := by
  unfold depB at h
  rw [Bool.and_eq_true] at h
  obtain ⟨h1, h2⟩ := h
  refine ⟨?_, ?_⟩
  · cases ho : ops[i]? with
    | none => rw [ho] at h1; cases h1
    | some o =>
      rw [ho] at h1
      simp only [Option.map_some, Option.getD_some] at h1
      obtain ⟨e, he, hb⟩ := Array.any_eq_true'.1 h1
      rw [Bool.and_eq_true, beq_iff_eq] at hb
      exact ⟨o, ho, e, he, hb.1, hb.2⟩
  · cases ho : ops[j]? with
    | none => rw [ho] at h2; cases h2
    | some o =>
      rw [ho] at h2
      exact ⟨o, rfl, by simpa using h2⟩
theorem restB_spec {ops : Array Oper} {m x : Nat} (h : restB ops m x = true) : ∀ i o, i < m → ops[i]? = some o → o.dst ≠ some x := fun i o hi ho => by
  unfold restB at h
  have := List.all_eq_true.1 h i (List.mem_range.2 hi)
  rw [ho] at this
  simpa using this
/-- The same, what an operation may use told by checks. -/
theorem region_runD {id : Nat} {a : Act} {w : World} (hm : P.follows .mixedOrders = true) (m : Nat) (hok : okB ops m a.tmps.size = true)
    (V : Nat → Value → World → Prop) (B : World → Prop) (hVm : ∀ i v w w', V i v w → Below w.heap.size w w' → V i v w') (hBm : ∀ w w', B w → Below w.heap.size w w' → B w') (hB : B { w with drawn := w.drawn + 1 })
    (hstep : ∀ i o a' w', i < m → ops[i]? = some o → B w' → a'.defers = a.defers → (∀ x, restB ops m x = true → a'.eval (.tmp x) = a.eval (.tmp x)) → (∀ j d, depB ops i j d = true → j < m → V j (a'.eval (.tmp d)) w') →
      o.wpIn F n P a' w' (fun a2 w2 => ∃ v, a2 = a'.put o.dst v ∧ Below w'.heap.size w' w2 ∧ V i v w2) Q)
    (hlast : ∀ o a' w', ops[m]? = some o → B w' → a'.defers = a.defers → a'.tmps.size = a.tmps.size → (∀ x, restB ops m x = true → a'.eval (.tmp x) = a.eval (.tmp x)) → (∀ j d, depB ops m j d = true → j < m → V j (a'.eval (.tmp d)) w') →
      o.wpIn F n P a' w' (fun a2 w2 => Q .normal a2 w2) Q) : (Code.region id ops true).wpIn F n P Q a w :=
  region_go hm m hok V B hVm hBm hB
    (fun i o a' w' hi ho hb hdf hr hd => hstep i o a' w' hi ho hb hdf (fun x hx => hr x (restB_spec hx)) (fun j d hj hjm => by obtain ⟨h1, oj, h2, h3⟩ := depB_spec hj; exact hd j oj d hjm h1 h2 h3))
    (fun o a' w' ho hb hdf hsz hr hd => hlast o a' w' ho hb hdf hsz (fun x hx => hr x (restB_spec hx)) (fun j d hj hjm => by obtain ⟨_, oj, h2, h3⟩ := depB_spec hj; exact hd j oj d hjm h2 h3))
/-- What an operation is, by a check. -/
theorem op_is {i : Nat} {o : Oper} {x : Op} {d : Option Tmp} (ho : ops[i]? = some o) (h : (ops[i]?).map (fun o => (o.op, o.dst)) = some (x, d)) : o.op = x ∧ o.dst = d := by
  rw [ho] at h
  simpa using h
/-- An operation that yields a value. -/
theorem val_ {o : Oper} {a : Act} {w : World} {K : Act → World → Prop} {v : Value} {w1 : World} (hd : ∀ c, o.op ≠ .defer c) (ha : o.about P w a.eval = none) (hr : (execOp a.eval o).run P w = .ok (.value v) w1) (h : K (a.put o.dst v) w1) : o.wpIn F n P a w K Q := by
  refine ⟨fun f hf => (by rw [ha] at hf; cases hf), ?_⟩
  rw [Oper.semAt_eq _ _ _ hd, hr]
  exact h
/-- An operation that gives no value. -/
theorem skip_ {o : Oper} {a : Act} {w : World} {K : Act → World → Prop} {w1 : World} (hd : ∀ c, o.op ≠ .defer c) (ha : o.about P w a.eval = none) (hr : (execOp a.eval o).run P w = .ok .skip w1) (h : K (a.put o.dst undef) w1) : o.wpIn F n P a w K Q := by
  refine ⟨fun f hf => (by rw [ha] at hf; cases hf), ?_⟩
  rw [Oper.semAt_eq _ _ _ hd, hr]
  exact h
/-- A call of a function of the program, in the widest fence, in a round or not. -/
theorem call_ {ro : Option Nat} {o : Oper} {a : Act} {w : World} {K : Act → World → Prop} {f : FuncId} {fn : Func} {as : Array Operand} {ts : Array TypeId}
    (hf : P.funcs[f]? = some fn) (hn : (fn.name == "runtime.NumGoroutine") = false) (hb : fn.body.isSome = true) (args : Array Value)
    (hop : o.op = .call { callee := .value (.func f), args := as, argTypes := ts }) (hargs : as.map a.eval = args)
    (h : Calls P f args w fun e w' => ∃ v, e = .returned v ∧ K (a.put o.dst v) w') : o.wpIn { Fence.wide with round := ro } n P a w K Q := by
  have hc : CallsIn { Fence.wide with round := ro } (n - 1) P f args w fun e w' => ∃ v, e = .returned v ∧ K (a.put o.dst v) w' := by
    have h1 := callsIn_wide (n := n - 1) |>.2 h
    cases ro with
    | none => exact h1
    | some l => exact CallsIn.inRound l h1
  have he := Go.Proofs.YthadapbekmmgpaaW.PrintLast.enters_ hf hn hb args w
  have hx : (resolve a.eval { callee := .value (.func f), args := as, argTypes := ts } o.type).run P w = .ok { target := .fn (.func f) #[], args := args } w := by
    simp [resolve, Deferred.ofValue, Act.eval, hargs]
  have hrun : (execOp a.eval o).run P w = .ok (.enter f args) w := by
    unfold execOp
    simp [hop, resolve, Deferred.ofValue, invoke, Act.eval, hargs, he]
  refine ⟨fun g hg => trivial, ?_⟩
  rw [Oper.semAt_eq _ _ _ (by rw [hop]; intro c h; cases h), hrun]
  refine ⟨fun h => by simp [Fence.wide] at h, ?_⟩
  refine hc.mono ?_
  rintro e w' ⟨v, rfl, hk⟩
  exact hk
/-- A call of a function of the program that ends in a panic, in the widest fence. -/
theorem callp_ {o : Oper} {a : Act} {w : World} {K : Act → World → Prop} {f : FuncId} {fn : Func} {as : Array Operand} {ts : Array TypeId} {chain : List PanicEntry}
    (hf : P.funcs[f]? = some fn) (hn : (fn.name == "runtime.NumGoroutine") = false) (hb : fn.body.isSome = true) (args : Array Value)
    (hop : o.op = .call { callee := .value (.func f), args := as, argTypes := ts }) (hargs : as.map a.eval = args)
    (h : Calls P f args w fun e w' => e = .panicked chain ∧ Q (.panic chain) a w') : o.wpIn Fence.wide n P a w K Q := by
  have hc : CallsIn Fence.wide (n - 1) P f args w fun e w' => e = .panicked chain ∧ Q (.panic chain) a w' := callsIn_wide (n := n - 1) |>.2 h
  have he := Go.Proofs.YthadapbekmmgpaaW.PrintLast.enters_ hf hn hb args w
  have hx : (resolve a.eval { callee := .value (.func f), args := as, argTypes := ts } o.type).run P w = .ok { target := .fn (.func f) #[], args := args } w := by
    simp [resolve, Deferred.ofValue, Act.eval, hargs]
  have hrun : (execOp a.eval o).run P w = .ok (.enter f args) w := by
    unfold execOp
    simp [hop, resolve, Deferred.ofValue, invoke, Act.eval, hargs, he]
  refine ⟨fun g hg => trivial, ?_⟩
  rw [Oper.semAt_eq _ _ _ (by rw [hop]; intro c h; cases h), hrun]
  refine ⟨fun h => by simp [Fence.wide] at h, ?_⟩
  refine hc.mono ?_
  rintro e w' ⟨rfl, hk⟩
  exact hk
theorem restU_spec {ops : Array Oper} {m i x : Nat} (h : restU ops m i x = true) : ∀ q o, q < m → ops[q]? = some o → o.dst = some x → Waits ops q i := fun q o hq ho hd => by
  unfold restU at h
  have := List.all_eq_true.1 h q (List.mem_range.2 hq)
  rw [ho] at this
  simp only [Option.map_some, Option.getD_some, hd, bne_self_eq_false, Bool.false_or] at this
  obtain ⟨e, he, hb⟩ := Array.any_eq_true'.1 this
  rw [Bool.and_eq_true, beq_iff_eq] at hb
  exact ⟨o, ho, e, he, hb.1, hb.2⟩
/-- With a tail: behind operation m, which waits for all ahead of it, the others follow in a row. -/
def okT (ops : Array Oper) (m k : Nat) : Bool :=
  decide (m < ops.size) && (List.range ops.size).all (fun i => ((ops[i]?).map (fun o => o.guard.isNone && o.after.all (fun e => !Region.binds .any e || decide (e.on < i)) && (decide (m ≤ i) || (o.dst.map (fun d => decide (d < k))).getD false))).getD false) &&
  (List.range m).all (fun j => (List.range (m + 1)).any (fun i => decide (j < i) && ((ops[i]?).map (fun o => o.after.any (fun e => Region.binds .any e && e.on == j))).getD false)) &&
  (List.range m).all (fun i => (List.range m).all (fun j => i == j || ((ops[i]?).map (·.dst) != (ops[j]?).map (·.dst)))) &&
  (List.range ops.size).all (fun i => decide (i ≤ m) || ((ops[i]?).map (fun o => o.after.any (fun e => Region.binds .any e && e.on == i - 1))).getD false)
theorem region_goT {id : Nat} {a : Act} {w : World} (hm : P.follows .mixedOrders = true) (m : Nat) (hok : okT ops m a.tmps.size = true)
    (V : Nat → Value → World → Prop) (B : World → Prop) (T : Nat → Act → World → Prop) (hVm : ∀ i v w w', V i v w → Below w.heap.size w w' → V i v w') (hBm : ∀ w w', B w → Below w.heap.size w w' → B w') (hB : B { w with drawn := w.drawn + 1 })
    (hstep : ∀ i o a' w', i < m → ops[i]? = some o → B w' → a'.defers = a.defers → (∀ x, restU ops m i x = true → a'.eval (.tmp x) = a.eval (.tmp x)) → (∀ j d, depB ops i j d = true → j < m → V j (a'.eval (.tmp d)) w') →
      o.wpIn F n P a' w' (fun a2 w2 => ∃ v, a2 = a'.put o.dst v ∧ Below w'.heap.size w' w2 ∧ V i v w2) Q)
    (hlast : ∀ o a' w', ops[m]? = some o → B w' → a'.defers = a.defers → a'.tmps.size = a.tmps.size → (∀ x, restB ops m x = true → a'.eval (.tmp x) = a.eval (.tmp x)) → (∀ j d, depB ops m j d = true → j < m → V j (a'.eval (.tmp d)) w') →
      o.wpIn F n P a' w' (T (m + 1)) Q)
    (htail : ∀ i o a' w', m < i → ops[i]? = some o → T i a' w' → o.wpIn F n P a' w' (T (i + 1)) Q)
    (hend : ∀ a' w', T ops.size a' w' → Q .normal a' w') : (Code.region id ops true).wpIn F n P Q a w := by
  unfold okT at hok
  simp only [Bool.and_eq_true, beq_iff_eq, List.all_eq_true, List.mem_range, decide_eq_true_eq] at hok
  obtain ⟨⟨⟨⟨hsz, h1⟩, h2⟩, h3⟩, h4⟩ := hok
  have hop : ∀ i, i < ops.size → ∃ o, ops[i]? = some o ∧ o.guard = none ∧ (∀ e ∈ o.after, Region.binds .any e = true → e.on < i) ∧ (m ≤ i ∨ ∃ d, o.dst = some d ∧ d < a.tmps.size) := fun i hi => by
    have := h1 i hi
    rw [Array.getElem?_eq_getElem hi] at this ⊢
    simp only [Option.map_some, Option.getD_some, Bool.and_eq_true, Bool.or_eq_true, decide_eq_true_eq, Option.isNone_iff_eq_none] at this
    obtain ⟨⟨g1, g2⟩, g3⟩ := this
    refine ⟨_, rfl, g1, fun e he hb => by have := (Array.all_eq_true'.1 g2) e he; rw [hb] at this; simpa using this, ?_⟩
    rcases g3 with g3 | g3
    · exact .inl g3
    · cases hd : ops[i].dst with
      | none => rw [hd] at g3; simp at g3
      | some d => rw [hd] at g3; exact .inr ⟨d, rfl, by simpa using g3⟩
  have hdag : ∀ i d, Waits ops i d → d < i := fun i d ⟨o, ho, e, he, hb, hd⟩ => by
    have hi : i < ops.size := (Array.getElem?_eq_some_iff.1 ho).1
    obtain ⟨o', ho', _, hh, _⟩ := hop i hi
    rw [ho] at ho'
    cases ho'
    subst hd
    exact hh e he hb
  have hinj : ∀ i j o o' d, i < m → j < m → ops[i]? = some o → ops[j]? = some o' → o.dst = some d → o'.dst = some d → i = j := fun i j o o' d hi hj ho ho' hd hd' => by
    have := h3 i hi j hj
    rw [ho, ho'] at this
    simp [hd, hd'] at this
    exact this
  have hwl : ∀ j, j < m → ∃ i, j < i ∧ i ≤ m ∧ Waits ops i j := fun j hj => by
    have := h2 j hj
    obtain ⟨i, hi, hb⟩ := List.any_eq_true.1 this
    rw [List.mem_range] at hi
    rw [Bool.and_eq_true, decide_eq_true_eq] at hb
    obtain ⟨hji, hb⟩ := hb
    obtain ⟨o, ho, _⟩ := hop i (by omega)
    rw [ho] at hb
    simp only [Option.map_some, Option.getD_some] at hb
    obtain ⟨e, he, hb⟩ := Array.any_eq_true'.1 hb
    simp only [Bool.and_eq_true, beq_iff_eq] at hb
    exact ⟨i, hji, by omega, o, ho, e, he, hb.1, hb.2⟩
  have hwt : ∀ i, m < i → i < ops.size → Waits ops i (i - 1) := fun i hi his => by
    have := h4 i his
    rw [Bool.or_eq_true, decide_eq_true_eq] at this
    have this := this.resolve_left (by omega)
    obtain ⟨o, ho, _⟩ := hop i his
    rw [ho] at this
    simp only [Option.map_some, Option.getD_some] at this
    obtain ⟨e, he, hb⟩ := Array.any_eq_true'.1 this
    simp only [Bool.and_eq_true, beq_iff_eq] at hb
    exact ⟨o, ho, e, he, hb.1, hb.2⟩
  refine wpIn_region_any hm ?_
  refine any_go hdag (fun L a' w' => (∃ t, m < t ∧ t ≤ ops.size ∧ (∀ i, i < t → L.getD i true = true) ∧ (∀ i, t ≤ i → i < ops.size → L.getD i true = false) ∧ T t a' w') ∨ ((∀ i, m ≤ i → i < ops.size → L.getD i true = false) ∧ Inv V B ops a m L a' w')) ?_ ?_ ops.size _ a _ (by simp) (by simp) ?_
  · intro L a' w' i hLs hi hLi hw hJ
    obtain ⟨o, ho, hg, _, hd⟩ := hop i hi
    have hft : ∀ j, j < ops.size → L.getD j false = true → L.getD j true = false → False := fun j hj h h' => by
      have hjs : j < L.size := by omega
      simp [Array.getD, hjs] at h h'
      rw [h] at h'
      cases h'
    have hwant : Region.wanted o (yielded ops a'.tmps) = true := by simp [Region.wanted, hg]
    unfold wpOpIn
    rw [ho]
    simp only [hwant, if_true]
    rcases hJ with ⟨t, hmt, hts, hdone, hnot, hT⟩ | ⟨hnot, hI⟩
    · have hge : t ≤ i := Nat.le_of_not_lt fun h => by rw [hdone i h] at hLi; cases hLi
      have hit : i = t := by
        rcases Nat.lt_or_ge t i with h | h
        · exfalso
          have h5 := hw (i - 1) (hwt i (by omega) hi)
          exact hft (i - 1) (by omega) h5 (hnot (i - 1) (by omega) (by omega))
        · omega
      subst hit
      refine Oper.wpIn_mono ?_ (htail i o a' w' hmt ho hT)
      intro a2 w2 hq
      refine .inl ⟨i + 1, by omega, by omega, fun j hj => ?_, fun j hj hjs => ?_, hq⟩
      · have hjs : j < L.size := by omega
        by_cases hij : i = j
        · subst hij; simp [Array.getD, hjs]
        · have := hdone j (by omega)
          simp [Array.getD, hjs, Array.getElem_setIfInBounds, hij] at this ⊢
          exact this
      · have hjl : j < L.size := by omega
        have hij : i ≠ j := by omega
        have := hnot j (by omega) hjs
        simp [Array.getD, hjl, Array.getElem_setIfInBounds, hij] at this ⊢
        exact this
    · by_cases him : i = m
      · subst him
        have hlist' : ∀ t j, j < i → i - j ≤ t → L.getD j false = true := fun t => by
          induction t with
          | zero => intro j hj ht; omega
          | succ t ih =>
            intro j hj ht
            obtain ⟨q, hjq, hqi, hwq⟩ := hwl j hj
            rcases Nat.lt_or_ge q i with hlt | hge
            · exact hI.closed q j hlt hwq (ih q hlt (by omega))
            · obtain rfl : q = i := by omega
              exact hw j hwq
        have hlist : ∀ j, j < i → L.getD j false = true := fun j hj => hlist' _ j hj (Nat.le_refl _)
        refine Oper.wpIn_mono ?_ (hlast o a' w' ho hI.base hI.defers hI.size (fun x hx => hI.rest x (fun q oq hq hoq hd => absurd hd (restB_spec hx q oq hq hoq))) (fun j d hj hjm => by obtain ⟨_, oj, h2, h3⟩ := depB_spec hj; exact hI.val j oj d hjm h2 (hlist j hjm) h3))
        intro a2 w2 hq
        refine .inl ⟨i + 1, by omega, by omega, fun j hj => ?_, fun j hj hjs => ?_, hq⟩
        · have hjs : j < L.size := by omega
          by_cases hij : i = j
          · subst hij; simp [Array.getD, hjs]
          · have := hlist j (by omega)
            simp [Array.getD, hjs, Array.getElem_setIfInBounds, hij] at this ⊢
            exact this
        · have hjl : j < L.size := by omega
          have hij : i ≠ j := by omega
          have := hnot j (by omega) hjs
          simp [Array.getD, hjl, Array.getElem_setIfInBounds, hij] at this ⊢
          exact this
      · have hlt : i < m := by
          rcases Nat.lt_or_ge i m with h | h
          · exact h
          · exfalso
            have h5 := hw (i - 1) (hwt i (by omega) hi)
            exact hft (i - 1) (by omega) h5 (hnot (i - 1) (by omega) (by omega))
        obtain ⟨d, hdd, hdl⟩ := hd.resolve_left (by omega)
        refine Oper.wpIn_mono ?_ (hstep i o a' w' hlt ho hI.base hI.defers (fun x hx => hI.rest x (fun q oq hq hoq hd => by
          cases hq2 : L.getD q false with
          | false => rfl
          | true => exact (hft i hi (hI.closed q i hq (restU_spec hx q oq hq hoq hd) hq2) hLi).elim)) (fun j dj hj hjm => by obtain ⟨h1, oj, h2, h3⟩ := depB_spec hj; exact hI.val j oj dj hjm h2 (hw j h1) h3))
        rintro a2 w2 ⟨v, rfl, hbl, hv⟩
        rw [hdd]
        refine .inr ⟨fun j hj hjs => ?_, hBm _ _ hI.base hbl, by simpa [Act.put] using hI.defers, by simpa [Act.put] using hI.size, fun x hx => ?_, fun j oj dj hj hoj hLj hdj => ?_, fun j dj hj hwj hLj => ?_⟩
        · have hjl : j < L.size := by omega
          have hij : i ≠ j := by omega
          have := hnot j hj hjs
          simp [Array.getD, hjl, Array.getElem_setIfInBounds, hij] at this ⊢
          exact this
        · have hxd : x ≠ d := fun e => by
            have := hx i o hlt ho (by rw [hdd, e])
            have his : i < L.size := by omega
            simp [Array.getD, his] at this
          rw [eval_put_other a' d x v hxd]
          refine hI.rest x fun q oq hq hoq hd => ?_
          have hqs : q < L.size := by omega
          have hiq : i ≠ q := fun e => hxd (by
            subst e
            rw [ho] at hoq
            cases hoq
            rw [hdd] at hd
            exact (Option.some.inj hd).symm)
          have := hx q oq hq hoq hd
          simpa [Array.getD, hqs, Array.getElem_setIfInBounds, hiq] using this
        · by_cases hij : j = i
          · subst hij
            rw [ho] at hoj
            cases hoj
            rw [hdd] at hdj
            cases hdj
            rw [eval_put_same a' d v (by rw [hI.size]; exact hdl)]
            exact hv
          · rw [eval_put_other a' d dj v (fun e => hij (hinj j i oj o d hj hlt hoj ho (by rw [hdj, e]) hdd))]
            have hjs : j < L.size := by omega
            have hne : i ≠ j := fun e => hij e.symm
            have hLj' : L.getD j false = true := by simpa [Array.getD, hjs, Array.getElem_setIfInBounds, hne] using hLj
            exact hVm _ _ _ _ (hI.val j oj dj hj hoj hLj' hdj) hbl
        · have hup : L.getD dj false = true → (L.setIfInBounds i true).getD dj false = true := fun h => by
            by_cases hs : dj < L.size
            · by_cases hid : i = dj
              · subst hid
                simp [Array.getD, hs]
              · simpa [Array.getD, hs, Array.getElem_setIfInBounds, hid] using h
            · simp [Array.getD, hs] at h
          refine hup ?_
          by_cases hij : j = i
          · subst hij
            exact hw dj hwj
          · have hjs : j < L.size := by omega
            have hne : i ≠ j := fun e => hij e.symm
            have hLj' : L.getD j false = true := by simpa [Array.getD, hjs, Array.getElem_setIfInBounds, hne] using hLj
            exact hI.closed j dj hj hwj hLj'
  · rintro L a' w' hLs hall (⟨t, hmt, hts, _, hnot, hT⟩ | ⟨hnot, _⟩)
    · have : t = ops.size := by
        rcases Nat.lt_or_ge t ops.size with h | h
        · have := hnot t (Nat.le_refl _) h
          rw [hall t h] at this
          cases this
        · omega
      subst this
      exact hend _ _ hT
    · have := hnot m (Nat.le_refl _) hsz
      rw [hall m hsz] at this
      cases this
  · refine .inr ⟨fun i _ hi => by simp [Array.getD, hi], hB, rfl, rfl, fun _ _ => rfl, fun i o d hi ho hL _ => ?_, fun i d hi _ hL => ?_⟩
    all_goals
      have : i < ops.size := by omega
      simp [Array.getD, this] at hL
/-- What a region has put: the slots that it writes hold what they hold, the others are as before. -/
def fills (u : Tmp → Value) (ds : List Tmp) (a : Act) : Act := ds.foldl (fun b d => b.put (some d) (u d)) a
theorem fills_size (u : Tmp → Value) : ∀ (ds : List Tmp) (a : Act), (fills u ds a).tmps.size = a.tmps.size ∧ (fills u ds a).defers = a.defers
  | [], _ => ⟨rfl, rfl⟩
  | d :: ds, a => by
    have h := fills_size u ds (a.put (some d) (u d))
    refine ⟨h.1.trans ?_, h.2.trans ?_⟩ <;> simp [Act.put]
theorem fills_get (u : Tmp → Value) : ∀ (ds : List Tmp) (a : Act) (x : Nat), x < a.tmps.size → (fills u ds a).eval (.tmp x) = if x ∈ ds then u x else a.eval (.tmp x)
  | [], _, _, _ => by simp [fills]
  | d :: ds, a, x, hx => by
    have h := fills_get u ds (a.put (some d) (u d)) x (by simpa [Act.put] using hx)
    show (fills u ds (a.put (some d) (u d))).eval (.tmp x) = _
    rw [h]
    by_cases hm : x ∈ ds
    · rw [if_pos hm, if_pos (List.mem_cons_of_mem _ hm)]
    · rw [if_neg hm]
      by_cases hd : x = d
      · subst hd
        rw [if_pos List.mem_cons_self, eval_put_same _ _ _ hx]
      · rw [if_neg (by simp [hd, hm]), eval_put_other _ _ _ _ hd]
theorem fill_eq {a a' : Act} (ds : List Tmp) (hsz : a'.tmps.size = a.tmps.size) (hdf : a'.defers = a.defers) (hr : ∀ x, x ∉ ds → a'.eval (.tmp x) = a.eval (.tmp x)) : a' = fills (fun d => a'.eval (.tmp d)) ds a := by
  have h1 := fills_size (fun d => a'.eval (.tmp d)) ds a
  obtain ⟨t, d⟩ := a'
  generalize hf : fills (fun x => Act.eval ⟨t, d⟩ (.tmp x)) ds a = b at h1
  obtain ⟨t2, d2⟩ := b
  have hd : d = d2 := hdf.trans h1.2.symm
  subst hd
  congr 1
  refine Array.ext (hsz.trans h1.1.symm) fun i hi hi2 => ?_
  have hia : i < a.tmps.size := by have h3 : t2.size = a.tmps.size := h1.1; have hi3 : i < t2.size := hi2; omega
  have h2 := fills_get (fun x => Act.eval ⟨t, d⟩ (.tmp x)) ds a i hia
  rw [hf] at h2
  have e2 : Act.eval ⟨t2, d⟩ (.tmp i) = t2[i] := by simp [Act.eval, hi2]
  have e1 : Act.eval ⟨t, d⟩ (.tmp i) = t[i] := by simp [Act.eval, hi]
  rw [e2] at h2
  by_cases hm : i ∈ ds
  · rw [if_pos hm] at h2
    exact (h2.trans e1).symm
  · rw [if_neg hm, ← hr i hm] at h2
    exact (h2.trans e1).symm
theorem rest_of {a a' : Act} {m : Nat} {ds : List Tmp} (h : (List.range m).all (fun i => ((ops[i]?).map (fun o => (o.dst.map (fun d => ds.contains d)).getD true)).getD true) = true) (hr : ∀ x, restB ops m x = true → a'.eval (.tmp x) = a.eval (.tmp x)) : ∀ x, x ∉ ds → a'.eval (.tmp x) = a.eval (.tmp x) := fun x hx => hr x (by
  unfold restB
  rw [List.all_eq_true] at h ⊢
  intro i hi
  have hh := h i hi
  cases ho : ops[i]? with
  | none => rfl
  | some o =>
    rw [ho] at hh
    simp only [Option.map_some, Option.getD_some] at hh ⊢
    cases hd : o.dst with
    | none => simp
    | some d =>
      rw [hd] at hh
      simp only [Option.map_some, Option.getD_some] at hh
      have : d ∈ ds := by simpa using hh
      have hne : d ≠ x := fun e => hx (e ▸ this)
      simpa using hne)
end Go.Proofs.Ythadapbekmmgpaa.XReg
