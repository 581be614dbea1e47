/- Opening the arguments of a law: what the form's reading of a struct, or of a slice of structs, says in the words of the print (Kd): no condition.  Own text. -/
import Derived.Test.YthadapbekmmgpaaSW
import Derived.Deep.Slices
import Derived.ChangeArms
import Derived.SizedLaws
import Derived.DataReads
set_option linter.unusedVariables false
set_option linter.unusedSimpArgs false
namespace Go.Proofs.Ythadapbekmmgpaa.XRow
open Go.RowKit Go.ChangeShapes Go.WideShapes Go.Deep Go.Proofs.YthadapbekmmgpaaW.PrintWords

/-- Whatever reads as type t is of kind d, and what is read is well formed and of the form's reach. -/
def Opens {α : Type} (P : Program) (t : TypeId) (d : Kd α) (wf : α → Prop) : Prop :=
  ∀ (H : Type) (enc : TypeId × Value → H) (w : World) (fuel : Nat) (cs : List Value) (x : DataW H × List MemPlace),
    DataW.trod enc P w 0 (fun _ => true) true fuel t cs = some x → (∀ n ∈ x.1.weights P t, n ≤ reachBytes) → ∃ a, d.K w a cs ∧ wf a

theorem opens_int {P : Program} {t : TypeId} {k : IntKind} (ht : P.underlying t = some (.int k)) : Opens P t (Kd.int k) (fun n => (Lit.int k n).wf = true) := by
  intro H enc w fuel cs x h _
  obtain ⟨n, rfl, _, hw⟩ := DataW.trod_int ht h
  exact ⟨n, rfl, hw⟩
theorem opens_bool {P : Program} {t : TypeId} (ht : P.underlying t = some .bool) : Opens P t Kd.bool (fun _ => True) := by
  intro H enc w fuel cs x h _
  obtain ⟨n, rfl, _⟩ := DataW.trod_bool ht h
  exact ⟨n, rfl, trivial⟩
theorem opens_string {P : Program} {t : TypeId} (ht : P.underlying t = some .string) : Opens P t Kd.string (fun s => s.size ≤ 140737488351232) := by
  intro H enc w fuel cs x h hw
  obtain ⟨s, rfl, rfl, _⟩ := DataW.trod_string ht h
  refine ⟨s, rfl, ?_⟩
  have z := hw s.data.toList.length (by simp [DataW.weights])
  rw [Array.length_toList] at z
  exact z
theorem opens_iso {α β : Type} {P : Program} {t : TypeId} {d : Kd α} {wf : α → Prop} (f : β → α) (g : α → β) (hg : ∀ a, f (g a) = a) (h : Opens P t d wf) : Opens P t (Kd.iso d f) (fun b => wf (f b)) := by
  intro H enc w fuel cs x h1 h2
  obtain ⟨a, hk, hw⟩ := h H enc w fuel cs x h1 h2
  refine ⟨g a, ?_, ?_⟩
  · show d.K w (f (g a)) cs
    rw [hg]; exact hk
  · show wf (f (g a))
    rw [hg]; exact hw
/-- The fields of a struct from one on, whose cells begin at 'off' and are 'total' many. -/
def OpensF {α : Type} (P : Program) (fs : List Field) (off total : Nat) (d : Kd α) (wf : α → Prop) : Prop :=
  ∀ (H : Type) (enc : TypeId × Value → H) (w : World) (n : Nat) (cs : List Value) (xs : List (DataW H × List MemPlace)), cs.length = total → xs.length = fs.length →
    (∀ (i : Nat) (f : Field), fs[i]? = some f → DataW.trod enc P w 0 (fun _ => true) true n f.type ((cs.drop (f.offset - off)).take (P.cellsOf f.type)) = xs[i]?) →
    (∀ m ∈ DataW.weightsEach P (fs.map (·.type)) (xs.map (·.1)), m ≤ reachBytes) → (∀ f ∈ fs, off ≤ f.offset) → ∃ a, d.K w a cs ∧ wf a

theorem opensF_one {α : Type} {P : Program} {f : Field} {off total : Nat} {d : Kd α} {wf : α → Prop} (ho : f.offset = off) (hc : P.cellsOf f.type = total) (h : Opens P f.type d wf) : OpensF P [f] off total d wf := by
  intro H enc w n cs xs hl hx hr hw _
  match xs, hx with
  | [x], _ =>
    have h0 := hr 0 f rfl
    rw [ho, Nat.sub_self, List.drop_zero, hc, ← hl, List.take_length] at h0
    refine h H enc w n cs x h0 (fun m hm => hw m ?_)
    simp [DataW.weightsEach, hm]
theorem opensF_cons {α β : Type} {P : Program} {f : Field} {fs : List Field} {off k total : Nat} {d : Kd α} {e : Kd β} {wf : α → Prop} {wg : β → Prop} (ho : f.offset = off) (hc : P.cellsOf f.type = k) (hk : k ≤ total) (hfs : ∀ g ∈ fs, off + k ≤ g.offset)
    (h : Opens P f.type d wf) (hs : OpensF P fs (off + k) (total - k) e wg) : OpensF P (f :: fs) off total (Kd.pair d e) (fun a => wf a.1 ∧ wg a.2) := by
  intro H enc w n cs xs hl hx hr hw _
  match xs, hx with
  | x :: xs, hx =>
    have h0 := hr 0 f rfl
    rw [ho, Nat.sub_self, List.drop_zero, hc] at h0
    obtain ⟨a, ha, wa⟩ := h H enc w n (cs.take k) x h0 (fun m hm => hw m (by simp [DataW.weightsEach, hm]))
    obtain ⟨b, hb, wb⟩ := hs H enc w n (cs.drop k) xs (by rw [List.length_drop, hl]) (by simpa using hx) (fun i g hg => by
      have h1 := hr (i + 1) g (by simpa using hg)
      have hge := hfs g (List.mem_of_getElem? hg)
      rw [List.drop_drop]
      rw [show k + (g.offset - (off + k)) = g.offset - off by omega]
      simpa using h1) (fun m hm => hw m (by simp [DataW.weightsEach, hm])) hfs
    exact ⟨(a, b), ⟨cs.take k, cs.drop k, (List.take_append_drop k cs).symm, ha, hb⟩, wa, wb⟩
theorem opens_struct {α : Type} {P : Program} {t : TypeId} {fs : Array Field} {d : Kd α} {wf : α → Prop} {total : Nat} (ht : P.underlying t = some (.struct fs)) (hc : P.cellsOf t = total) (h : OpensF P fs.toList 0 total d wf) : Opens P t d wf := by
  intro H enc w fuel cs x hx hw
  obtain ⟨xs, n, _, rfl, hl, hn, hf⟩ := DataW.trod_struct ht hx
  refine h H enc w n cs xs (hl.trans hc) (by simpa using hn) (fun i f hi => ?_) (fun m hm => hw m ?_) (fun _ _ => Nat.zero_le _)
  · rw [Nat.sub_zero]
    exact hf i f (by simpa using hi)
  · simpa [DataW.weights, ht] using hm

theorem weightsAll_mem {H : Type} {P : Program} {e : TypeId} {d : DataW H} : ∀ {l : List (DataW H)}, d ∈ l → ∀ n ∈ d.weights P e, n ∈ DataW.weightsAll P e l
  | x :: l, hd, n, hn => by
    simp only [DataW.weightsAll, List.mem_append]
    rcases List.mem_cons.1 hd with rfl | hd
    · exact .inl hn
    · exact .inr (weightsAll_mem hd n hn)
theorem opens_slice {α : Type} {P : Program} {t e : TypeId} {d : Kd α} {wf : α → Prop} {B : Nat} (ht : P.underlying t = some (.slice e)) (hc : P.cellsOf e = d.sz) (hB : P.bytesOf e = B) (h : Opens P e d wf) :
    Opens P t (Kd.slice e d) (fun l => l.length * B ≤ 140737488351232 ∧ ∀ x ∈ l, wf x) := by
  intro H enc w fuel cs x hx hw
  rcases open_slice ht hx with ⟨rfl, _⟩ | ⟨a, len, cap, m, n, D, Pl, rfl, _, hlc, hcm, hm, rfl, hi⟩
  · exact ⟨[], ⟨none, 0, rfl, Nat.le_refl _, Kd.C_nil _ _⟩, by simp, fun x hx => by simp at hx⟩
  · have hlm : len ≤ m := by rw [hm]; split <;> omega
    have hel : ∀ i, i < len → ∃ p : α, ∃ c : List Value, w.cells? 0 (a.add (i * P.cellsOf e)) (P.cellsOf e) = some c ∧ d.K w p c ∧ wf p := by
      intro i hil
      obtain ⟨c, h1, h2⟩ := hi i (by omega)
      obtain ⟨p, hp, hq⟩ := h H enc w n c _ h2 (fun q hq => hw q (by
        simp only [DataW.weights, ht]
        refine List.mem_cons_of_mem _ (List.mem_append_left _ ?_)
        exact weightsAll_mem (d := D i) (List.mem_map.2 ⟨i, by simpa using hil, rfl⟩) q hq))
      exact ⟨p, c, h1, hp, hq⟩
    obtain ⟨F, hF⟩ : ∃ F : List α, F.length = len ∧ ∀ i p, F[i]? = some p → ∃ c : List Value, w.cells? 0 (a.add (i * P.cellsOf e)) (P.cellsOf e) = some c ∧ d.K w p c ∧ wf p := by
      clear hx hw hi hlm hm hlc
      induction len with
      | zero => exact ⟨[], rfl, fun i p hp => by simp at hp⟩
      | succ l ih =>
        obtain ⟨F, h1, h2⟩ := ih (fun i hi => hel i (by omega))
        obtain ⟨p, hp⟩ := hel l (by omega)
        refine ⟨F ++ [p], by simp [h1], fun i q hq => ?_⟩
        rcases Nat.lt_trichotomy i l with hlt | rfl | hgt
        · rw [List.getElem?_append_left (by omega)] at hq
          exact h2 i q hq
        · rw [List.getElem?_append_right (by omega), h1, Nat.sub_self] at hq
          obtain rfl : p = q := by simpa using hq
          exact hp
        · rw [List.getElem?_eq_none (by simp; omega)] at hq
          cases hq
    obtain ⟨hFl, hF⟩ := hF
    have hz : (len + (m - len)) * P.bytesOf e ≤ reachBytes := hw _ (by simp [DataW.weights, ht])
    have hlen : len * B ≤ 140737488351232 := by
      have h1 : len * P.bytesOf e ≤ (len + (m - len)) * P.bytesOf e := Nat.mul_le_mul_right _ (by omega)
      rw [hB] at h1 hz
      exact Nat.le_trans h1 hz
    refine ⟨F, ⟨some a, cap, by rw [hFl], by rw [hFl]; exact hlc, rfl, by rw [hFl]; unfold maxLen at hcm; omega, fun _ => ⟨a, rfl, fun j p hp => ?_⟩⟩, by rw [hFl]; exact hlen, fun x hx => ?_⟩
    · obtain ⟨c, h1, h2, _⟩ := hF j p hp
      obtain ⟨_, hcl, hcc⟩ := World.cells?_some h1
      refine ⟨c, hcl.trans hc, h2, fun i u hu => ?_⟩
      have hil : i < c.length := (List.getElem?_eq_some_iff.1 hu).1
      have h3 := hcc i (by omega)
      rw [hu, Go.Deep.add_add, hc] at h3
      exact h3
    · obtain ⟨i, hi⟩ := List.mem_iff_getElem?.1 hx
      obtain ⟨c, _, _, h3⟩ := hF i x hi
      exact h3

/-- An argument: opened by its type. -/
theorem opens_arg {α : Type} {P : Program} {t : TypeId} {d : Kd α} {wf : α → Prop} (h : Opens P t d wf) {H : Type} {enc : TypeId × Value → H} {w : World} {v : Value} {x : DataW H} {p : List MemPlace} {ts : List TypeId} {ds : List (DataW H)} {j : Nat}
    (hsz : (DataW.weightsEach P ts ds).all (· ≤ reachBytes) = true) (ht : ts[j]? = some t) (hd : ds[j]? = some x) (hv : DataW.Trod enc P w 0 (fun _ => true) true t v x p) : ∃ a, d.K w a v.cells.toList ∧ wf a := by
  obtain ⟨fuel, hf⟩ := hv
  refine h H enc w fuel _ _ hf (fun n hn => ?_)
  simpa using List.all_eq_true.1 hsz n (DataW.weights_mem_each ht hd n hn)
end Go.Proofs.Ythadapbekmmgpaa.XRow
