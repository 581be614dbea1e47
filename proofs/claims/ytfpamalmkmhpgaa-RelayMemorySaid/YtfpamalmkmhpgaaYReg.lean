/- A region that draws its order, told once for each operation (no order is gone through): what holds of the slots and of the world whatever has come up; the last operation waits for all. In a fence or not. No condition but those typed. Own text. -/
import Derived.OrdersIn
import Derived.ControlIn
import Derived.Below
import Derived.RowKit
import Derived.Tactics
import Derived.TacticsIn
import Derived.RangeFuncCalls
import Derived.Test.YtfpamalmkmhpgaaVLast
set_option linter.unusedVariables false
set_option linter.unusedSimpArgs false
namespace Go.Proofs.Ytfpamalmkmhpgaa.XReg
open Go Go.RowKit
variable {F : Fence} {n : Nat} {P : Program} {ops : Array Oper} {Q : Exit → Act → World → Prop}
/-- Operation i waits for operation d. -/
def Waits (ops : Array Oper) (i d : Nat) : Prop := ∃ o, ops[i]? = some o ∧ ∃ e ∈ o.after, Region.binds .any e = true ∧ e.on = d
theorem ready_spec {L : Array Bool} {i : Nat} (h : i ∈ Region.ready .any ops L) : i < ops.size ∧ L.getD i true = false ∧ ∀ d, Waits ops i d → L.getD d false = true := by
  unfold Region.ready at h
  simp only [List.mem_filter, List.mem_range, Bool.and_eq_true, Bool.not_eq_true'] at h
  obtain ⟨h1, h2, h3⟩ := h
  refine ⟨h1, h2, fun d ⟨o, ho, e, he, hb, hd⟩ => ?_⟩
  rw [ho] at h3
  simp only [Option.map_some, Option.getD_some] at h3
  have := (Array.all_eq_true'.1 h3) e he
  subst hd
  simpa [hb] using this
theorem ready_mem {L : Array Bool} {i : Nat} (h1 : i < ops.size) (h2 : L.getD i true = false) (h3 : ∀ d, Waits ops i d → L.getD d false = true) : i ∈ Region.ready .any ops L := by
  unfold Region.ready
  simp only [List.mem_filter, List.mem_range, Bool.and_eq_true, Bool.not_eq_true']
  refine ⟨h1, h2, ?_⟩
  rw [Array.getElem?_eq_getElem h1]
  simp only [Option.map_some, Option.getD_some]
  rw [Array.all_eq_true']
  intro e he
  cases hb : Region.binds .any e with
  | false => rfl
  | true => simpa using h3 e.on ⟨ops[i], Array.getElem?_eq_getElem h1, e, he, hb, rfl⟩
theorem ready_nil {L : Array Bool} (hL : L.size = ops.size) (hdag : ∀ i d, Waits ops i d → d < i) (h : Region.ready .any ops L = []) : ∀ i, i < ops.size → L.getD i true = true := by
  intro i
  induction i using Nat.strongRecOn with
  | ind i ih =>
    intro hi
    cases hb : L.getD i true with
    | true => rfl
    | false =>
      have : i ∈ Region.ready .any ops L := ready_mem hi hb fun d hd => by
        have hlt := hdag i d hd
        have := ih d hlt (Nat.lt_trans hlt hi)
        have hs : d < L.size := by omega
        simpa [Array.getD, hs] using this
      rw [h] at this
      cases this
theorem count_set {L : Array Bool} {i : Nat} (hi : i < L.size) (h : L.getD i true = false) : (L.setIfInBounds i true).toList.count false + 1 = L.toList.count false := by
  have hi' : i < L.toList.length := by simpa using hi
  have hv : L.toList[i] = false := by simpa [Array.getD, hi] using h
  rw [Array.toList_setIfInBounds, List.count_set hi', hv]
  have hp : 0 < L.toList.count false := List.count_pos_iff.2 (by
    have := List.getElem_mem hi'
    rwa [hv] at this)
  rw [show (if (false == false) = true then 1 else 0) = 1 from rfl, show (if (true == false) = true then 1 else 0) = 0 from rfl]
  omega
theorem any_go (hdag : ∀ i d, Waits ops i d → d < i) (J : Array Bool → Act → World → Prop)
    (hstep : ∀ L a w i, L.size = ops.size → i < ops.size → L.getD i true = false → (∀ d, Waits ops i d → L.getD d false = true) → J L a w → wpOpIn F n P ops Q i (J (L.setIfInBounds i true)) a w)
    (hend : ∀ L a w, L.size = ops.size → (∀ i, i < ops.size → L.getD i true = true) → J L a w → Q .normal a w) :
    ∀ (fuel : Nat) (L : Array Bool) (a : Act) (w : World), L.size = ops.size → L.toList.count false ≤ fuel → J L a w → wpAnyIn F n P .any ops Q fuel L a w
  | 0, L, a, w, hs, hc, hJ => by
    have hall : ∀ i, i < ops.size → L.getD i true = true := fun i hi => by
      cases hb : L.getD i true with
      | true => rfl
      | false => have := count_set (by omega) hb; omega
    refine ⟨?_, hend L a w hs hall hJ⟩
    cases hr : Region.ready .any ops L with
    | nil => rfl
    | cons x xs =>
      have := ready_spec (show x ∈ Region.ready .any ops L by rw [hr]; exact List.mem_cons_self)
      rw [hall x this.1] at this
      exact absurd this.2.1 (by decide)
  | fuel + 1, L, a, w, hs, hc, hJ => by
    refine ⟨fun hr => hend L a w hs (ready_nil hs hdag hr) hJ, fun i hi => ?_⟩
    obtain ⟨h1, h2, h3⟩ := ready_spec hi
    refine wpOpIn_mono (fun a' w' hJ' => ?_) (hstep L a w i hs h1 h2 h3 hJ)
    exact any_go hdag J hstep hend fuel _ a' w' (by simpa using hs) (by have := count_set (L := L) (by omega) h2; omega) hJ'
/-- What holds while the operations ahead of the last come up. -/
structure Inv (V : Nat → Value → World → Prop) (B : World → Prop) (ops : Array Oper) (a0 : Act) (m : Nat) (L : Array Bool) (a : Act) (w : World) : Prop where
  base : B w
  defers : a.defers = a0.defers
  size : a.tmps.size = a0.tmps.size
  rest : ∀ x, (∀ i o, i < m → ops[i]? = some o → o.dst ≠ some x) → a.eval (.tmp x) = a0.eval (.tmp x)
  val : ∀ i o d, i < m → ops[i]? = some o → L.getD i false = true → o.dst = some d → V i (a.eval (.tmp d)) w
theorem eval_put_same (a : Act) (d : Nat) (v : Value) (h : d < a.tmps.size) : (a.put (some d) v).eval (.tmp d) = v := by
  simp [Act.put, Act.eval, h]
theorem eval_put_other (a : Act) (d x : Nat) (v : Value) (h : x ≠ d) : (a.put (some d) v).eval (.tmp x) = a.eval (.tmp x) := by
  simp [Act.put, Act.eval, Array.getElem?_setIfInBounds, Ne.symm h]
def okB (ops : Array Oper) (m k : Nat) : Bool :=
  (ops.size == m + 1) && (List.range ops.size).all (fun i => ((ops[i]?).map (fun o => o.guard.isNone && o.after.all (fun e => decide (e.on < i)) && (i == m || (o.dst.map (fun d => decide (d < k))).getD false))).getD false) &&
  (List.range m).all (fun j => ((ops[m]?).map (fun o => o.after.any (fun e => Region.binds .any e && e.on == j))).getD false) &&
  (List.range m).all (fun i => (List.range m).all (fun j => i == j || ((ops[i]?).map (·.dst) != (ops[j]?).map (·.dst))))
theorem region_go {id : Nat} {a : Act} {w : World} (hm : P.follows .mixedOrders = true) (m : Nat) (hok : okB ops m a.tmps.size = true)
    (V : Nat → Value → World → Prop) (B : World → Prop) (hVm : ∀ i v w w', V i v w → Below w.heap.size w w' → V i v w') (hBm : ∀ w w', B w → Below w.heap.size w w' → B w') (hB : B { w with drawn := w.drawn + 1 })
    (hstep : ∀ i o a' w', i < m → ops[i]? = some o → B w' → (∀ x, (∀ i o, i < m → ops[i]? = some o → o.dst ≠ some x) → a'.eval (.tmp x) = a.eval (.tmp x)) → (∀ j oj d, j < m → Waits ops i j → ops[j]? = some oj → oj.dst = some d → V j (a'.eval (.tmp d)) w') →
      o.wpIn F n P a' w' (fun a2 w2 => ∃ v, a2 = a'.put o.dst v ∧ Below w'.heap.size w' w2 ∧ V i v w2) Q)
    (hlast : ∀ o a' w', ops[m]? = some o → B w' → a'.defers = a.defers → a'.tmps.size = a.tmps.size → (∀ x, (∀ i o, i < m → ops[i]? = some o → o.dst ≠ some x) → a'.eval (.tmp x) = a.eval (.tmp x)) → (∀ j oj d, j < m → ops[j]? = some oj → oj.dst = some d → V j (a'.eval (.tmp d)) w') →
      o.wpIn F n P a' w' (fun a2 w2 => Q .normal a2 w2) Q) : (Code.region id ops true).wpIn F n P Q a w := by
  unfold okB at hok
  simp only [Bool.and_eq_true, beq_iff_eq, List.all_eq_true, List.mem_range] at hok
  obtain ⟨⟨⟨hsz, h1⟩, h2⟩, h3⟩ := hok
  have hop : ∀ i, i < ops.size → ∃ o, ops[i]? = some o ∧ o.guard = none ∧ (∀ e ∈ o.after, e.on < i) ∧ (i = m ∨ ∃ d, o.dst = some d ∧ d < a.tmps.size) := fun i hi => by
    have := h1 i hi
    rw [Array.getElem?_eq_getElem hi] at this ⊢
    simp only [Option.map_some, Option.getD_some, Bool.and_eq_true, Bool.or_eq_true, beq_iff_eq, Option.isNone_iff_eq_none] at this
    obtain ⟨⟨g1, g2⟩, g3⟩ := this
    refine ⟨_, rfl, g1, fun e he => of_decide_eq_true ((Array.all_eq_true'.1 g2) e he), ?_⟩
    rcases g3 with g3 | g3
    · exact .inl g3
    · cases hd : ops[i].dst with
      | none => rw [hd] at g3; simp at g3
      | some d => rw [hd] at g3; exact .inr ⟨d, rfl, by simpa using g3⟩
  have hdag : ∀ i d, Waits ops i d → d < i := fun i d ⟨o, ho, e, he, _, hd⟩ => by
    have hi : i < ops.size := (Array.getElem?_eq_some_iff.1 ho).1
    obtain ⟨o', ho', _, hh, _⟩ := hop i hi
    rw [ho] at ho'
    cases ho'
    subst hd
    exact hh e he
  have hinj : ∀ i j o o' d, i < m → j < m → ops[i]? = some o → ops[j]? = some o' → o.dst = some d → o'.dst = some d → i = j := fun i j o o' d hi hj ho ho' hd hd' => by
    have := h3 i hi j hj
    rw [ho, ho'] at this
    simp [hd, hd'] at this
    exact this
  have hwl : ∀ j, j < m → Waits ops m j := fun j hj => by
    have := h2 j hj
    obtain ⟨o, ho, _⟩ := hop m (by omega)
    rw [ho] at this
    simp only [Option.map_some, Option.getD_some] at this
    obtain ⟨e, he, hb⟩ := Array.any_eq_true'.1 this
    simp only [Bool.and_eq_true, beq_iff_eq] at hb
    exact ⟨o, ho, e, he, hb.1, hb.2⟩
  have hget : ∀ (L : Array Bool) (i : Nat), i < L.size → L.getD i true = L.getD i false := fun L i hi => by simp [Array.getD, hi]
  refine wpIn_region_any hm ?_
  refine any_go hdag (fun L a' w' => (L.getD m true = true ∧ (∀ i, i < m → L.getD i true = true) ∧ Q .normal a' w') ∨ (L.getD m true = false ∧ Inv V B ops a m L a' w')) ?_ ?_ ops.size _ a _ (by simp) (by simp) ?_
  · intro L a' w' i hLs hi hLi hw hJ
    obtain ⟨o, ho, hg, _, hd⟩ := hop i hi
    rcases hJ with ⟨hm1, hall, _⟩ | ⟨hm1, hI⟩
    · exfalso
      rcases Nat.lt_or_ge i m with h | h
      · rw [hall i h] at hLi; cases hLi
      · obtain rfl : i = m := by omega
        rw [hm1] at hLi; cases hLi
    have hwant : Region.wanted o (yielded ops a'.tmps) = true := by simp [Region.wanted, hg]
    unfold wpOpIn
    rw [ho]
    simp only [hwant, if_true]
    by_cases him : i = m
    · subst him
      have hlist : ∀ j, j < i → L.getD j false = true := fun j hj => hw j (hwl j hj)
      refine Oper.wpIn_mono ?_ (hlast o a' w' ho hI.base hI.defers hI.size hI.rest (fun j oj d hj hoj hdj => hI.val j oj d hj hoj (hlist j hj) hdj))
      intro a2 w2 hq
      refine .inl ⟨by simp [Array.getD, hLs, hi], fun j hj => ?_, hq⟩
      have := hlist j hj
      have hjs : j < L.size := by omega
      have hne : i ≠ j := by omega
      simp [Array.getD, hjs, Array.getElem_setIfInBounds, hne] at this ⊢
      exact this
    · have hlt : i < m := by omega
      obtain ⟨d, hdd, hdl⟩ := hd.resolve_left him
      refine Oper.wpIn_mono ?_ (hstep i o a' w' hlt ho hI.base hI.rest (fun j oj dj hj hwj hoj hdj => hI.val j oj dj hj hoj (hw j hwj) hdj))
      rintro a2 w2 ⟨v, rfl, hbl, hv⟩
      rw [hdd]
      have hms : m < L.size := by omega
      refine .inr ⟨by simpa [Array.getD, hms, Array.getElem_setIfInBounds, him] using hm1, hBm _ _ hI.base hbl, by simpa [Act.put] using hI.defers, by simpa [Act.put] using hI.size, fun x hx => ?_, fun j oj dj hj hoj hLj hdj => ?_⟩
      · rw [eval_put_other a' d x v (fun e => hx i o hlt ho (by rw [hdd, e]))]
        exact hI.rest x hx
      · by_cases hij : j = i
        · subst hij
          rw [ho] at hoj
          cases hoj
          rw [hdd] at hdj
          cases hdj
          rw [eval_put_same a' d v (by rw [hI.size]; exact hdl)]
          exact hv
        · rw [eval_put_other a' d dj v (fun e => hij (hinj j i oj o d hj hlt hoj ho (by rw [hdj, e]) hdd))]
          have hjs : j < L.size := by omega
          have hne : i ≠ j := fun e => hij e.symm
          have hLj' : L.getD j false = true := by simpa [Array.getD, hjs, Array.getElem_setIfInBounds, hne] using hLj
          exact hVm _ _ _ _ (hI.val j oj dj hj hoj hLj' hdj) hbl
  · rintro L a' w' hLs hall (⟨_, _, hq⟩ | ⟨hm1, _⟩)
    · exact hq
    · rw [hall m (by omega)] at hm1; cases hm1
  · refine .inr ⟨by simp [Array.getD, hsz], hB, rfl, rfl, fun _ _ => rfl, fun i o d hi ho hL _ => ?_⟩
    have : i < ops.size := by omega
    simp [Array.getD, this] at hL
def depB (ops : Array Oper) (i j d : Nat) : Bool := ((ops[i]?).map (fun o => o.after.any (fun e => Region.binds .any e && e.on == j))).getD false && ((ops[j]?).map (fun o => o.dst == some d)).getD false
def restB (ops : Array Oper) (m x : Nat) : Bool := (List.range m).all (fun i => ((ops[i]?).map (fun o => o.dst != some x)).getD true)
theorem depB_spec {ops : Array Oper} {i j d : Nat} (h : depB ops i j d = true) : Waits ops i j ∧ ∃ oj, ops[j]? = some oj ∧ oj.dst = some d := by
  unfold depB at h
  rw [Bool.and_eq_true] at h
  obtain ⟨h1, h2⟩ := h
  refine ⟨?_, ?_⟩
  · cases ho : ops[i]? with
    | none => rw [ho] at h1; cases h1
    | some o =>
      rw [ho] at h1
      simp only [Option.map_some, Option.getD_some] at h1
      obtain ⟨e, he, hb⟩ := Array.any_eq_true'.1 h1
      rw [Bool.and_eq_true, beq_iff_eq] at hb
      exact ⟨o, ho, e, he, hb.1, hb.2⟩
  · cases ho : ops[j]? with
    | none => rw [ho] at h2; cases h2
    | some o =>
      rw [ho] at h2
      exact ⟨o, rfl, by simpa using h2⟩
theorem restB_spec {ops : Array Oper} {m x : Nat} (h : restB ops m x = true) : ∀ i o, i < m → ops[i]? = some o → o.dst ≠ some x := fun i o hi ho => by
  unfold restB at h
  have := List.all_eq_true.1 h i (List.mem_range.2 hi)
  rw [ho] at this
  simpa using this
/-- The same, what an operation may use told by checks. -/
theorem region_run {id : Nat} {a : Act} {w : World} (hm : P.follows .mixedOrders = true) (m : Nat) (hok : okB ops m a.tmps.size = true)
    (V : Nat → Value → World → Prop) (B : World → Prop) (hVm : ∀ i v w w', V i v w → Below w.heap.size w w' → V i v w') (hBm : ∀ w w', B w → Below w.heap.size w w' → B w') (hB : B { w with drawn := w.drawn + 1 })
    (hstep : ∀ i o a' w', i < m → ops[i]? = some o → B w' → (∀ x, restB ops m x = true → a'.eval (.tmp x) = a.eval (.tmp x)) → (∀ j d, depB ops i j d = true → j < m → V j (a'.eval (.tmp d)) w') →
      o.wpIn F n P a' w' (fun a2 w2 => ∃ v, a2 = a'.put o.dst v ∧ Below w'.heap.size w' w2 ∧ V i v w2) Q)
    (hlast : ∀ o a' w', ops[m]? = some o → B w' → a'.defers = a.defers → a'.tmps.size = a.tmps.size → (∀ x, restB ops m x = true → a'.eval (.tmp x) = a.eval (.tmp x)) → (∀ j d, depB ops m j d = true → j < m → V j (a'.eval (.tmp d)) w') →
      o.wpIn F n P a' w' (fun a2 w2 => Q .normal a2 w2) Q) : (Code.region id ops true).wpIn F n P Q a w :=
  region_go hm m hok V B hVm hBm hB
    (fun i o a' w' hi ho hb hr hd => hstep i o a' w' hi ho hb (fun x hx => hr x (restB_spec hx)) (fun j d hj hjm => by obtain ⟨h1, oj, h2, h3⟩ := depB_spec hj; exact hd j oj d hjm h1 h2 h3))
    (fun o a' w' ho hb hdf hsz hr hd => hlast o a' w' ho hb hdf hsz (fun x hx => hr x (restB_spec hx)) (fun j d hj hjm => by obtain ⟨_, oj, h2, h3⟩ := depB_spec hj; exact hd j oj d hjm h2 h3))
/-- What an operation is, by a check. -/
theorem op_is {i : Nat} {o : Oper} {x : Op} {d : Option Tmp} (ho : ops[i]? = some o) (h : (ops[i]?).map (fun o => (o.op, o.dst)) = some (x, d)) : o.op = x ∧ o.dst = d := by
  rw [ho] at h
  simpa using h
/-- An operation that yields a value. -/
theorem val_ {o : Oper} {a : Act} {w : World} {K : Act → World → Prop} {v : Value} {w1 : World} (hd : ∀ c, o.op ≠ .defer c) (ha : o.about P w a.eval = none) (hr : (execOp a.eval o).run P w = .ok (.value v) w1) (h : K (a.put o.dst v) w1) : o.wpIn F n P a w K Q := by
  refine ⟨fun f hf => (by rw [ha] at hf; cases hf), ?_⟩
  rw [Oper.semAt_eq _ _ _ hd, hr]
  exact h
/-- An operation that gives no value. -/
theorem skip_ {o : Oper} {a : Act} {w : World} {K : Act → World → Prop} {w1 : World} (hd : ∀ c, o.op ≠ .defer c) (ha : o.about P w a.eval = none) (hr : (execOp a.eval o).run P w = .ok .skip w1) (h : K (a.put o.dst undef) w1) : o.wpIn F n P a w K Q := by
  refine ⟨fun f hf => (by rw [ha] at hf; cases hf), ?_⟩
  rw [Oper.semAt_eq _ _ _ hd, hr]
  exact h
/-- A call of a function of the program, in the widest fence, in a round or not. -/
theorem call_ {ro : Option Nat} {o : Oper} {a : Act} {w : World} {K : Act → World → Prop} {f : FuncId} {fn : Func} {as : Array Operand} {ts : Array TypeId}
    (hf : P.funcs[f]? = some fn) (hn : (fn.name == "runtime.NumGoroutine") = false) (hb : fn.body.isSome = true) (args : Array Value)
    (hop : o.op = .call { callee := .value (.func f), args := as, argTypes := ts }) (hargs : as.map a.eval = args)
    (h : Calls P f args w fun e w' => ∃ v, e = .returned v ∧ K (a.put o.dst v) w') : o.wpIn { Fence.wide with round := ro } n P a w K Q := by
  have hc : CallsIn { Fence.wide with round := ro } (n - 1) P f args w fun e w' => ∃ v, e = .returned v ∧ K (a.put o.dst v) w' := by
    have h1 := callsIn_wide (n := n - 1) |>.2 h
    cases ro with
    | none => exact h1
    | some l => exact CallsIn.inRound l h1
  have he := Go.Proofs.YtfpamalmkmhpgaaW.PrintLast.enters_ hf hn hb args w
  have hx : (resolve a.eval { callee := .value (.func f), args := as, argTypes := ts } o.type).run P w = .ok { target := .fn (.func f) #[], args := args } w := by
    simp [resolve, Deferred.ofValue, Act.eval, hargs]
  have hrun : (execOp a.eval o).run P w = .ok (.enter f args) w := by
    unfold execOp
    simp [hop, resolve, Deferred.ofValue, invoke, Act.eval, hargs, he]
  refine ⟨fun g hg => trivial, ?_⟩
  rw [Oper.semAt_eq _ _ _ (by rw [hop]; intro c h; cases h), hrun]
  refine ⟨fun h => by simp [Fence.wide] at h, ?_⟩
  refine hc.mono ?_
  rintro e w' ⟨v, rfl, hk⟩
  exact hk
end Go.Proofs.Ytfpamalmkmhpgaa.XReg
