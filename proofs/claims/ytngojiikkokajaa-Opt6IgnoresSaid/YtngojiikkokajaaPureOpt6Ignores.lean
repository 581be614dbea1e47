/- Opt6Ignores: no condition. -/
import Derived.Test.YtngojiikkokajaaG0
import Derived.Test.YtngojiikkokajaaG1
import Derived.Test.YtngojiikkokajaaG2
import Derived.Test.YtngojiikkokajaaG3
import Derived.Test.YtngojiikkokajaaG4
import Derived.Test.YtngojiikkokajaaG5
import Derived.Test.YtngojiikkokajaaG19
import Derived.Laws.BitsAllLaws
import Derived.Lib.Strings
import Derived.Test.YtngojiikkokajaaXO5
set_option linter.unusedVariables false
namespace Go.Proofs.Ytngojiikkokajaa.Pure
open Go Go.RowKit Go.Proofs.YtngojiikkokajaaW.PrintWords Go.Proofs.YtngojiikkokajaaW.PrintLast Go.Proofs.YtngojiikkokajaaW.PrintMore Go.Proofs.Ytngojiikkokajaa.X Go.Proofs.Ytngojiikkokajaa.Oct Go.Proofs.Ytngojiikkokajaa.O6
def TXT : S40 := ⟨13, (⟨#[0, 9, 116, 101, 120, 116]⟩ : ByteArray)⟩
/-- An option that nobody minds. -/
theorem glL_skip (kind part : Int) (o : S40) (h13 : ¬ o.f0 = 13) (hp : ¬ o.f0 = part) (a b : List S40) (has : List S76) (cur : Int) : glL kind part (a ++ o :: b) has cur = glL kind part (a ++ b) has cur := by
  rw [glL_append, glL_append]
  cases glL kind part a has cur with
  | error e => rfl
  | ok y =>
    show glL kind part (o :: b) y.1 y.2 = _
    rw [glL, if_neg h13, if_neg hp]
theorem glL_txt (kind part : Int) (has : List S76) (c : Int) (hc : ¬ c = -1) : glL kind part [TXT] has c = .ok (has, c) := by
  rw [glL, if_pos (show TXT.f0 = 13 from rfl), if_pos (show cutB (L TXT.f1) 0 2 = true from by decide), if_neg hc, glL]
/-- The rest of the law, from the row of options on. -/
theorem ign_j2 (kind iaid t1 t2 : Int) (l : List S76) (code : Int) (hs : sndS kind t1 t2 l code = true) (hX : ∀ x ∈ l, okX x) (hi : ok4 iaid) (h1 : ok4 t1) (h2 : ok4 t2) (more : List S40) (ho : emOk more = true) (hz : ∀ x ∈ more, okF x) (hl : more.length ≤ 128) (hg : glL kind (ptO kind) more [] (-1) = .ok (l, code)) (E : List UInt8) (size : Nat) (hsz : size = (hdP kind iaid t1 t2).length) (k : Nat) (hk : 20 ≤ k) :
    tenancylaw15_Opt6Ignores.j2 k size more kind iaid t1 t2 l code (cdO kind) (B (hdP kind iaid t1 t2 ++ E)) = some true := by
  obtain ⟨k, rfl⟩ : ∃ m, k = m + 1 := ⟨k - 1, by omega⟩
  obtain ⟨s1, s2, s3, s4⟩ := sndS_in hs
  have hem := emL_len more
  have hh : (hdP kind iaid t1 t2).length ≤ 12 := by
    unfold hdP
    split
    · exact (by decide : 4 ≤ 12)
    · exact Nat.le_refl 12
  have hle : size ≤ (B (hdP kind iaid t1 t2 ++ E)).size := by rw [size_B, List.length_append]; omega
  have hext : (B (hdP kind iaid t1 t2 ++ E)).extract 0 size = B (hdP kind iaid t1 t2) := by
    apply ext_L
    rw [L_extract, L_B, L_B, List.drop_zero, Nat.sub_zero, hsz, List.take_left' rfl]
  rw [tenancylaw15_Opt6Ignores.j2, emit_eq more hz hl, if_pos ho, Option.bind_some, if_pos rfl, if_pos (by omega), if_pos (by omega), Int.toNat_natCast, hext, if_pos (by rw [size_B, size_B]; omega), B_append, get_f _ _ (by rw [size_B, List.length_append]; omega), L_B, gI_any kind iaid t1 t2 l code s2 hi h1 h2 (emL more) more (opts_emit more ho hz hl) hg, Option.bind_some, if_pos rfl, ias_true _ _ _ _ _ _ (by omega) k (by omega), Option.bind_some]
theorem pt_ne {kind : Int} {c : Int} (h5 : ¬ c = 5) (h26 : ¬ c = 26) : ¬ c = ptO kind := by unfold ptO; split <;> assumption
theorem ign_j1 (kind iaid t1 t2 : Int) (l : List S76) (code : Int) (hs : sndS kind t1 t2 l code = true) (hX : ∀ x ∈ l, okX x) (hi : ok4 iaid) (h1 : ok4 t1) (h2 : ok4 t2) (o : S40) (ho : okF o) (h5 : ¬ o.f0 = 5) (h26 : ¬ o.f0 = 26) (h13 : ¬ o.f0 = 13) (hsz : o.f1.size ≤ 1000) (at_ : Int) (size : Nat) (hsize : size = (hdP kind iaid t1 t2).length) (k : Nat) (hk : 400 ≤ k) :
    tenancylaw15_Opt6Ignores.j1 k at_ size kind iaid t1 t2 l code o.f0 o.f1 (cdO kind) (B (hdP kind iaid t1 t2 ++ emL (iaZ kind l code))) = some true := by
  obtain ⟨k, rfl⟩ : ∃ m, k = m + 1 := ⟨k - 1, by omega⟩
  obtain ⟨s1, s2, s3, s4⟩ := sndS_in hs
  obtain ⟨o1, o2, o3⟩ := iaZ_ok kind l code s3
  have hh : (hdP kind iaid t1 t2).length ≤ 12 := by
    unfold hdP
    split
    · exact (by decide : 4 ≤ 12)
    · exact Nat.le_refl 12
  have hem := emL_len (iaZ kind l code)
  obtain ⟨zs, hzs⟩ : ∃ zs, zs = iaZ kind l code := ⟨_, rfl⟩
  have hgl := glL_iaZ hs hX
  rw [← hzs] at o1 o2 o3 hem hgl ⊢
  have hL : L ((B (hdP kind iaid t1 t2 ++ emL zs)).extract size (B (hdP kind iaid t1 t2 ++ emL zs)).size) = emL zs := by rw [extract_from, L_B, hsize, List.drop_left' rfl]
  have hn1 : wrap64 ((zs.length : Int) + 1) = (zs.length : Int) + 1 := w64 (by omega)
  have hn2 : wrap64 ((zs.length : Int) + 2) = (zs.length : Int) + 2 := w64 (by omega)
  have hu : IntKind.u64.wrap ((zs.length : Int) + 1) = (zs.length : Int) + 1 := by rw [u64_wrap, Int.emod_eq_of_lt (by omega) (by omega)]
  have hm0 : 0 ≤ Int.tmod (IntKind.u64.wrap at_) ((zs.length : Int) + 1) := Int.tmod_nonneg _ (by rw [u64_wrap]; exact Int.emod_nonneg _ (by decide))
  have hm1 : Int.tmod (IntKind.u64.wrap at_) ((zs.length : Int) + 1) < (zs.length : Int) + 1 := Int.tmod_lt_of_pos _ (by omega)
  have hw : wrap64 (Int.tmod (IntKind.u64.wrap at_) ((zs.length : Int) + 1)) = Int.tmod (IntKind.u64.wrap at_) ((zs.length : Int) + 1) := w64 (by omega)
  rw [tenancylaw15_Opt6Ignores.j1, if_pos (by omega), if_pos (by rw [size_B, List.length_append]; omega), Int.toNat_natCast, parse_eq _ (by rw [ByteArray.size_extract, size_B, List.length_append]; omega) k (by omega), hL, opts_emit zs o1 o2 (by omega), Option.bind_some, if_pos rfl]
  dsimp only
  rw [hn1, hn2, hu, hw, if_neg (by omega), if_pos (by omega), if_pos (by omega), Option.bind_some]
  generalize Int.tmod (IntKind.u64.wrap at_) ((zs.length : Int) + 1) = j at hm0 hm1 ⊢
  obtain ⟨m, rfl⟩ : ∃ m : Nat, j = (m : Int) := ⟨j.toNat, (Int.toNat_of_nonneg hm0).symm⟩
  have hml : m ≤ zs.length := by omega
  rw [if_pos (by omega), if_pos (by omega), Option.bind_some, Int.toNat_natCast, List.nil_append]
  have ht : (zs.take m).length ≤ 9 := by rw [List.length_take]; omega
  have hd : (zs.drop m).length ≤ 9 := by rw [List.length_drop]; omega
  have hlen : ((zs.take m ++ [o]) ++ zs.drop m).length = zs.length + 1 := by
    simp only [List.length_append, List.length_take, List.length_drop, List.length_singleton]; omega
  have hmem : ∀ x ∈ (zs.take m ++ [o]) ++ zs.drop m, okF x := fun x hx => by
    rcases List.mem_append.1 hx with hx | hx
    · rcases List.mem_append.1 hx with hx | hx
      · exact o2 x (List.mem_of_mem_take hx)
      · obtain rfl := List.mem_singleton.1 hx
        exact ho
    · exact o2 x (List.mem_of_mem_drop hx)
  have hem2 : emOk ((zs.take m ++ [o]) ++ zs.drop m) = true := by
    have e : emOk (zs.take m ++ zs.drop m) = true := by rw [List.take_append_drop]; exact o1
    rw [emOk_append, Bool.and_eq_true] at e
    have e1 : emOk [o] = true := by
      unfold emOk
      rw [List.all_cons, List.all_nil, Bool.and_true]
      exact decide_eq_true (by rw [← size_L]; omega)
    rw [emOk_append, emOk_append, e.1, e.2, e1]
    rfl
  have hg2 : glL kind (ptO kind) ((zs.take m ++ [o]) ++ zs.drop m) [] (-1) = .ok (l, code) := by
    rw [List.append_assoc, List.singleton_append, glL_skip kind (ptO kind) o h13 (pt_ne h5 h26), List.take_append_drop]
    exact hgl
  rw [if_pos (by simp only [List.length_nil]; omega), Option.bind_some, if_pos (by omega), Option.bind_some, Option.bind_some, if_pos (by rw [List.length_append, List.length_singleton]; omega), Option.bind_some]
  generalize hq : (zs.take m ++ [o]) ++ zs.drop m = mo at hlen hmem hem2 hg2
  by_cases hc : code ≥ 0
  · rw [if_pos hc, if_pos (by omega)]
    refine ign_j2 kind iaid t1 t2 l code hs hX hi h1 h2 (mo ++ [TXT]) ?_ ?_ ?_ ?_ _ size hsize k (by omega)
    · rw [emOk_append, hem2]
      decide
    · intro x hx
      rcases List.mem_append.1 hx with hx | hx
      · exact hmem x hx
      · obtain rfl := List.mem_singleton.1 hx
        exact ⟨by decide, by decide⟩
    · rw [List.length_append, List.length_singleton]; omega
    · rw [glL_append, hg2]
      exact glL_txt kind (ptO kind) l code (by omega)
  · rw [if_neg hc]
    exact ign_j2 kind iaid t1 t2 l code hs hX hi h1 h2 mo hem2 hmem (by omega) hg2 _ size hsize k (by omega)
theorem Opt6Ignores : tenancylaw15_Opt6Ignores.Pure := by
  intro x o a2 hx ho h2w
  have hX : ∀ y ∈ x.f4, okX y := fun y hy => okX_wf (hx.2.2.2.2.1.2 y hy)
  have hi := wf_u32 hx.2.1
  have h1 := wf_u32 hx.2.2.1
  have h2 := wf_u32 hx.2.2.2.1
  have stop : ∀ a b, tenancylaw15_Opt6Ignores.j0 1000 a2 true x.f0 x.f1 x.f2 x.f3 x.f4 x.f5 o.f0 o.f1 a b = some true := fun a b => by
    rw [show (1000 : Nat) = 999 + 1 from rfl, tenancylaw15_Opt6Ignores.j0, if_pos rfl]
  refine ⟨1000, ?_⟩
  unfold tenancylaw15_Opt6Ignores.f
  rw [awake _ (by decide), Option.bind_some, if_pos rfl, put_f _ _ _ _ _ _ hX hi h1 h2, Option.bind_some]
  cases hs : sndS x.f0 x.f2 x.f3 x.f4 x.f5 with
  | false =>
    rw [if_neg (show ¬ (false = true) by decide)]
    dsimp only
    rw [if_neg (by decide)]
    exact stop _ _
  | true =>
    rw [if_pos rfl]
    dsimp only
    rw [if_pos rfl]
    by_cases h5 : o.f0 = 5
    · rw [if_pos h5]; exact stop _ _
    · rw [if_neg h5]
      by_cases h26 : o.f0 = 26
      · rw [if_pos h26]; exact stop _ _
      · rw [if_neg h26]
        by_cases h13 : o.f0 = 13
        · rw [if_pos h13]; exact stop _ _
        · rw [if_neg h13]
          by_cases hbig : (o.f1.size : Int) > 1000
          · rw [decide_eq_true hbig]; exact stop _ _
          · rw [decide_eq_false hbig, show (1000 : Nat) = 999 + 1 from rfl, tenancylaw15_Opt6Ignores.j0, if_neg (by decide)]
            by_cases h3 : x.f0 = 3
            · rw [if_pos h3]
              exact ign_j1 x.f0 x.f1 x.f2 x.f3 x.f4 x.f5 hs hX hi h1 h2 o (wf_u16 ho.1) h5 h26 h13 (by omega) a2 4 (by unfold hdP; rw [if_pos h3]; rfl) 999 (by decide)
            · rw [if_neg h3]
              exact ign_j1 x.f0 x.f1 x.f2 x.f3 x.f4 x.f5 hs hX hi h1 h2 o (wf_u16 ho.1) h5 h26 h13 (by omega) a2 12 (by unfold hdP; rw [if_neg h3]; rfl) 999 (by decide)
end Go.Proofs.Ytngojiikkokajaa.Pure
