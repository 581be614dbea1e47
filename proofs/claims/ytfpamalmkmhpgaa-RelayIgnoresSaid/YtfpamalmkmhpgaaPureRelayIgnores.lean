/- RelayIgnores: no condition. -/
import Derived.Test.YtfpamalmkmhpgaaG0
import Derived.Test.YtfpamalmkmhpgaaG1
import Derived.Test.YtfpamalmkmhpgaaG2
import Derived.Test.YtfpamalmkmhpgaaG3
import Derived.Test.YtfpamalmkmhpgaaG10
import Derived.Laws.BitsAllLaws
import Derived.Lib.Strings
import Derived.Test.YtfpamalmkmhpgaaXRl3
set_option linter.unusedVariables false
namespace Go.Proofs.Ytfpamalmkmhpgaa.Pure
open Go Go.RowKit Go.Proofs.YtfpamalmkmhpgaaW.PrintWords Go.Proofs.YtfpamalmkmhpgaaW.PrintLast Go.Proofs.YtfpamalmkmhpgaaW.PrintMore Go.Proofs.Ytfpamalmkmhpgaa.X Go.Proofs.Ytfpamalmkmhpgaa.Oct Go.Proofs.Ytfpamalmkmhpgaa.Rl
theorem emL_append : ∀ (a b : List S42), emL (a ++ b) = emL a ++ emL b
  | [], b => rfl
  | x :: a, b => by rw [List.cons_append, emL, emL, emL_append a b]; simp only [List.append_assoc]
theorem emOk_append (a b : List S42) : emOk (a ++ b) = (emOk a && emOk b) := by unfold emOk; rw [List.all_append]
theorem pick_9 (r : S39) (x : S42) (inner : ByteArray) (hr : okR r) (h : x.f0 = 9) : pick (relay_Wrap.o r inner ++ [x]) 0 NIL NIL false = none := by
  unfold relay_Wrap.o
  cases h4 : r.f4 <;> simp [pick, h]
theorem pick_18t (r : S39) (x : S42) (inner : ByteArray) (h4 : r.f4 = true) (h : x.f0 = 18) : pick (relay_Wrap.o r inner ++ [x]) 0 NIL NIL false = none := by
  unfold relay_Wrap.o
  simp [pick, h, h4]
theorem pick_18f (r : S39) (x : S42) (inner : ByteArray) (h4 : r.f4 = false) (h : x.f0 = 18) : pick (relay_Wrap.o r inner ++ [x]) 0 NIL NIL false = some (x.f1, true, inner) := by
  unfold relay_Wrap.o
  simp [pick, h, h4]
theorem pick_else (r : S39) (x : S42) (inner : ByteArray) (hr : okR r) (h9 : ¬ x.f0 = 9) (h18 : ¬ x.f0 = 18) : pick (relay_Wrap.o r inner ++ [x]) 0 NIL NIL false = some (r.f3, r.f4, inner) := by
  unfold relay_Wrap.o
  cases h4 : r.f4 with
  | true => simp [pick, h9, h18]
  | false => rw [hr.2.2.2 h4]; simp [pick, h9, h18]
theorem j2_true (k : Nat) (hk : 200000 ≤ k) (r : S39) (ls : List S39) (s t out : ByteArray) (x : S39) (hx : okR r) (ht : t = B (hdr 12 r ++ emL (relay_Wrap.o r s))) (hls : ls = [x]) (ho : out = s) :
    tenancylaw17_RelayIgnores.j2 k s t 0 ls out x.f0 x.f1.f0 x.f1.f1 x.f2.f0 x.f2.f1 x.f3 x.f4 = some true := by
  obtain ⟨k, rfl⟩ : ∃ m, k = m + 1 := ⟨k - 1, by omega⟩
  subst hls ho
  have hs := same_true [x] (by show 1 ≤ _; omega) k (by show 1 < _; omega)
  have hlt : t.size = 34 + (emL (relay_Wrap.o r out)).length := by rw [ht, size_B, List.length_append, hdr_len]
  have e34 : L (t.extract 0 34) = hdr 12 r := by
    rw [L_extract, ht, L_B, List.drop_zero, Nat.sub_zero, List.take_left' (hdr_len 12 r)]
  have e33 : L (t.extract 0 33) = (hdr 12 r).take 33 := by
    rw [L_extract, ht, L_B, List.drop_zero, Nat.sub_zero, List.take_append_of_le_length (by rw [hdr_len]; decide)]
  have u34 : unw 12 33 (hdr 12 r) [] = ([], NIL, 171) := by
    have h1 := one_enc 12 r [] hx (by decide) (fun y hy => (by cases hy)) (by decide)
    have hh := enc_hit 12 (.inl rfl) r []
    rw [emL, List.append_nil] at h1
    rw [List.append_nil] at hh
    rw [unw, hh, if_pos rfl, if_neg (by decide), h1]
    rfl
  have u33 : unw 12 33 ((hdr 12 r).take 33) [] = ([], NIL, 3) := by
    have h1 : oneS ((hdr 12 r).take 33) = (0, 0, 0, 0, 0, NIL, false, NIL, 3) := by
      unfold oneS
      rw [if_pos (by rw [List.length_take, hdr_len]; decide)]
    have hh : hit 12 ((hdr 12 r).take 33) = true := by
      have h : (hdr 12 r).take 33 = b8 12 :: ((hdr 12 r).take 33).tail := rfl
      rw [h]
      rfl
    rw [unw, hh, if_pos rfl, if_neg (by decide), h1]
    rfl
  have z34 : (t.extract 0 34).size ≤ 34 := by rw [ByteArray.size_extract]; omega
  have z33 : (t.extract 0 33).size ≤ 33 := by rw [ByteArray.size_extract]; omega
  rw [tenancylaw17_RelayIgnores.j2, if_pos rfl]
  show (tenancylaw17_same.f k [x] [x]).bind _ = _
  rw [hs, Option.bind_some, if_pos rfl, if_pos rfl, if_pos (by decide), if_pos (by omega), unwrap_eq _ (by omega), if_neg (by omega), e34, u34, Option.bind_some, if_pos (by decide), if_pos (by omega), unwrap_eq _ (by omega), if_neg (by omega), e33, u33, Option.bind_some, if_pos rfl]
  rfl
theorem RelayIgnores : tenancylaw17_RelayIgnores.Pure := by
  intro x0 x1 a2 h0 h1 h2
  refine ⟨300000, ?_⟩
  have hU := okU_wf h0
  have hF : okF x1 := wf_u16 h1.1
  have he : opt6_Emit.f [x1] = some (if emOk [x1] = true then (B (emL [x1]), 0) else (NIL, 130)) := emit_eq [x1] (fun y hy => by obtain rfl := List.mem_singleton.1 hy; exact hF) (by show 1 ≤ 128; omega)
  have j0t : ∀ (a b : ByteArray), tenancylaw17_RelayIgnores.j0 300000 a2 a b true x0.f0 x0.f1.f0 x0.f1.f1 x0.f2.f0 x0.f2.f1 x0.f3 x0.f4 x1.f0 x1.f1 = some true := fun a b => by
    rw [show (300000 : Nat) = 299999 + 1 from rfl, tenancylaw17_RelayIgnores.j0, if_pos rfl]
  unfold tenancylaw17_RelayIgnores.f
  rw [awake _ (by decide), Option.bind_some, if_pos rfl]
  show (relay_Wrap.f 12 [x0] a2).bind _ = _
  unfold relay_Wrap.f
  rw [Option.bind_some]
  show (opt6_Emit.f [x1]).bind _ = _
  rw [he, Option.bind_some]
  by_cases hg2 : (relay_Wrap.g 12 [x0] a2).2 = 0
  case neg => rw [if_neg hg2]; exact j0t _ _
  rw [if_pos hg2]
  by_cases hok1 : emOk [x1] = true
  case neg => rw [if_neg hok1, if_neg (by decide)]; exact j0t _ _
  rw [if_pos hok1, if_pos rfl]
  by_cases hsz : wrap64 (((relay_Wrap.g 12 [x0] a2).1.size : Int) + ((B (emL [x1])).size : Int)) > 65507
  case pos => rw [if_pos hsz]; exact j0t _ _
  rw [if_neg hsz]
  -- what was wrapped
  obtain ⟨t, hg, hl, hz⟩ : ∃ t, relay_Wrap.g 12 [x0] a2 = (t, 0) ∧ relay_Wrap.l 12 [x0].reverse a2 = (t, 0) ∧ t.size ≤ 65507 ∧ okR x0 := by
    rcases g_cases 12 [x0] a2 with ⟨hk, _⟩ | ⟨hk, ⟨hl2, _⟩ | ⟨hl2, ⟨_, hg⟩ | ⟨hb, hg | ⟨t, g1, g2, g3⟩⟩⟩⟩
    · omega
    · exact absurd hl2 (by show ¬ 32 < 1; omega)
    · rw [hg] at hg2; exact absurd hg2 (by decide)
    · rw [hg] at hg2; exact absurd hg2 (by decide)
    · exact ⟨t, g1, g2, g3, any_false hb (fun r hr => by obtain rfl := List.mem_singleton.1 hr; exact hU) x0 (by simp)⟩
  obtain ⟨hz, hR⟩ := hz
  rw [hg] at hsz ⊢
  have ho : emOk (relay_Wrap.o x0 a2) = true ∧ t = B (hdr 12 x0 ++ emL (relay_Wrap.o x0 a2)) := by
    have h : relay_Wrap.l 12 [x0] a2 = (t, 0) := hl
    rw [l_cons 12 x0 [] a2 hU] at h
    by_cases ho : emOk (relay_Wrap.o x0 a2) = true
    · rw [if_pos ho] at h
      exact ⟨ho, (Prod.mk.inj h).1.symm⟩
    · rw [if_neg ho] at h
      exact absurd (Prod.mk.inj h).2 (by decide)
  obtain ⟨ho, ht⟩ := ho
  have hoo := o_ok x0 a2
  have hcat : t ++ B (emL [x1]) = B (hdr 12 x0 ++ emL (relay_Wrap.o x0 a2 ++ [x1])) := by rw [ht, B_append, emL_append, List.append_assoc]
  have hone := one_enc 12 x0 (relay_Wrap.o x0 a2 ++ [x1]) hR (by rw [emOk_append, ho, hok1]; rfl) (fun y hy => by
    rcases List.mem_append.1 hy with hy | hy
    · exact hoo.1 y hy
    · obtain rfl := List.mem_singleton.1 hy; exact hF) (by rw [List.length_append, List.length_singleton]; omega)
  have hb1 := emL_len [x1]
  have hb2 : ([x1] : List S42).length = 1 := rfl
  have hcz : (t ++ B (emL [x1])).size ≤ 65507 := by
    rw [ByteArray.size_append, size_B]
    rw [size_B] at hsz
    dsimp only at hsz
    rw [w64 (by omega)] at hsz
    omega
  have hun : ∀ b, unw 12 33 (hdr 12 x0 ++ emL (relay_Wrap.o x0 a2 ++ [x1])) [] = b ↔ (if (fin x0.f0 x0.f1.f0 x0.f1.f1 x0.f2.f0 x0.f2.f1 (pick (relay_Wrap.o x0 a2 ++ [x1]) 0 NIL NIL false)).2.2.2.2.2.2.2.2 = 0 then unw 12 32 (L (fin x0.f0 x0.f1.f0 x0.f1.f1 x0.f2.f0 x0.f2.f1 (pick (relay_Wrap.o x0 a2 ++ [x1]) 0 NIL NIL false)).2.2.2.2.2.2.2.1) ([] ++ [rel (fin x0.f0 x0.f1.f0 x0.f1.f1 x0.f2.f0 x0.f2.f1 (pick (relay_Wrap.o x0 a2 ++ [x1]) 0 NIL NIL false))]) else ([], NIL, (fin x0.f0 x0.f1.f0 x0.f1.f1 x0.f2.f0 x0.f2.f1 (pick (relay_Wrap.o x0 a2 ++ [x1]) 0 NIL NIL false)).2.2.2.2.2.2.2.2)) = b := by
    intro b
    rw [unw, enc_hit 12 (.inl rfl), if_pos rfl, if_neg (by decide), hone]
  have hj0 : ∀ b, (b = false → hit 12 (L a2) = false) → tenancylaw17_RelayIgnores.j0 300000 a2 t (B (emL [x1])) b x0.f0 x0.f1.f0 x0.f1.f1 x0.f2.f0 x0.f2.f1 x0.f3 x0.f4 x1.f0 x1.f1 = some true := by
    intro b hb
    cases b with
    | true => exact j0t _ _
    | false =>
      have hh := hb rfl
      rw [show (300000 : Nat) = 299999 + 1 from rfl, tenancylaw17_RelayIgnores.j0, if_neg (by decide), if_pos (by rw [ByteArray.size_append] at hcz; omega), unwrap_eq _ (by decide), if_neg (by omega), hcat, L_B, Option.bind_some]
      by_cases h9 : x1.f0 = 9
      · have hu : unw 12 33 (hdr 12 x0 ++ emL (relay_Wrap.o x0 a2 ++ [x1])) [] = ([], NIL, 171) := (hun _).2 (by rw [pick_9 x0 x1 a2 hR h9]; rfl)
        rw [hu, if_pos h9, show (299999 : Nat) = 299998 + 1 from rfl, tenancylaw17_RelayIgnores.j1, if_pos rfl, if_pos rfl]
        rfl
      · rw [if_neg h9]
        by_cases h18 : x1.f0 = 18
        · rw [if_pos h18, show (299999 : Nat) = 299998 + 1 from rfl, tenancylaw17_RelayIgnores.j1]
          cases h4 : x0.f4 with
          | true =>
            have hu : unw 12 33 (hdr 12 x0 ++ emL (relay_Wrap.o x0 a2 ++ [x1])) [] = ([], NIL, 171) := (hun _).2 (by rw [pick_18t x0 x1 a2 h4 h18]; rfl)
            rw [hu, if_pos rfl, if_pos rfl]
            rfl
          | false =>
            have hu : unw 12 33 (hdr 12 x0 ++ emL (relay_Wrap.o x0 a2 ++ [x1])) [] = ([⟨x0.f0, x0.f1, x0.f2, x1.f1, true⟩], a2, 0) := (hun _).2 (by
              rw [pick_18f x0 x1 a2 h4 h18]
              show (if (0 : Int) = 0 then unw 12 32 (L a2) _ else _) = _
              rw [if_pos rfl, unw, hh, if_neg (by decide), B_L]
              rfl)
            rw [hu, if_neg (by decide), if_pos h18]
            exact j2_true _ (by decide) x0 _ a2 t a2 ⟨x0.f0, x0.f1, x0.f2, x1.f1, true⟩ hR ht rfl rfl
        · have hu : unw 12 33 (hdr 12 x0 ++ emL (relay_Wrap.o x0 a2 ++ [x1])) [] = ([x0], a2, 0) := (hun _).2 (by
            rw [pick_else x0 x1 a2 hR h9 h18]
            show (if (0 : Int) = 0 then unw 12 32 (L a2) _ else _) = _
            rw [if_pos rfl, unw, hh, if_neg (by decide), B_L]
            rfl)
          rw [if_neg h18, show (299999 : Nat) = 299998 + 1 from rfl, tenancylaw17_RelayIgnores.j1, if_neg (by decide), if_neg h18, hu]
          exact j2_true _ (by decide) x0 _ a2 t a2 x0 hR ht rfl rfl
  by_cases hz2 : (a2.size : Int) > 0
  · rw [if_pos hz2, if_pos hz2]
    exact hj0 _ fun hb => by rw [hit_first 12 (.inl rfl) a2 (by omega)]; exact hb
  · rw [if_neg hz2]
    exact hj0 _ fun _ => hit_empty 12 a2 (by omega)
end Go.Proofs.Ytfpamalmkmhpgaa.Pure
