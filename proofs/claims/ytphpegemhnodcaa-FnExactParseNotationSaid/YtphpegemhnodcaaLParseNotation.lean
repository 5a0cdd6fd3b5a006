import Derived.Test.YtphpegemhnodcaaU19
namespace Go.Proofs.Ytphpegemhnodcaa
open Go.Av
set_option linter.unusedSimpArgs false
set_option linter.unusedVariables false
attribute [local irreducible] AWP CallG Ob Br BrP Go.Av.Sub endQ AOps OpV AC thenA blkA opsVC opVC withA withArgs opsQ opQ CallQ withA2 withArgs2
open Go.Nt (Nd nd0 kd pSeq)
theorem tot_bd : ∀ (xss : List (List Int)) (c : Nat), (∀ x ∈ xss, x.length ≤ c) → tot xss ≤ c * xss.length
  | [], _, _ => by simp [tot]
  | x :: r, c, h => by
    have h1 := tot_bd r c fun y hy => h y (List.mem_cons_of_mem _ hy)
    have h2 := h x List.mem_cons_self
    unfold tot at h1 ⊢
    rw [List.map_cons, List.sum_cons, List.length_cons, Nat.mul_succ]
    omega
theorem parP_le (names s : ByteArray) : (parP names s).1.length ≤ 200 := by
  unfold parP
  split
  · exact Nat.zero_le _
  · split
    · exact (by decide : 1 ≤ 200)
    · cases pSeq names s (2 * s.size + 2) 0 [] [] with
      | out => exact Nat.zero_le _
      | bad w => exact Nat.zero_le _
      | ok q l ks =>
        dsimp only
        split
        · exact Nat.zero_le _
        · split
          · exact Nat.zero_le _
          · rw [List.length_append, List.length_singleton]; omega
theorem parP_tot (names s : ByteArray) : tot (kss (parP names s).1) ≤ 1048576 := by
  have h1 := tot_bd (kss (parP names s).1) 2000 fun x hx => by
    unfold kss at hx
    obtain ⟨y, hy, rfl⟩ := List.mem_map.1 hx
    exact (parP_small names s).2 y hy
  have h2 := parP_le names s
  have h3 : (kss (parP names s).1).length = (parP names s).1.length := kss_len _
  omega
section
variable {P : Program} {N : Cx} {A A' : Fr} {H H' : Hp}
theorem NR_none {xs ys : List Nd} {h : Nat} (hl : ys.length = xs.length) : NR xs xs.length xs.length h = none ↔ NR ys xs.length xs.length h = none := by
  unfold NR
  by_cases e : h = 1000000
  · rw [if_pos e, if_pos e]; simp
  · rw [if_neg e, if_neg e]
    by_cases e2 : h / FB = 1000001 ∧ h % FB < xs.length
    · rw [if_pos e2, if_pos e2]; simp
    · rw [if_neg e2, if_neg e2]
/-- A call that marks a row of nodes. -/
theorem callMkC {f : FuncId} {args : List AV} {xs ys : List Nd} {a : Value} {K : AV → Fr → Hp → Prop} (hl : ys.length = xs.length) (hx : xs.length ≤ 1048576) (hac : AC P f args (NR xs xs.length xs.length) pM (fun r H => r = .v a ∧ H = NR ys xs.length xs.length)) (hpn : N.pn = fun _ => false)
    (hK : K (.v a) A ((NR ys ys.length ys.length).add H')) : CallG P N f args A ((NR xs xs.length xs.length).add H') K := by
  refine callG_of hac (fun _ => false) false (fun h B hB => Hp.add_some hB) (FitsL.refl _) (fun _ => rfl) (fun h hn _ => pM_high (NR_high hn)) (by simp [hpn]) ?_
  rintro r H1 ⟨rfl, rfl⟩
  refine ⟨fun h h1 h2 => absurd ((NR_none hl).1 h2) h1, by simp, ?_⟩
  have e1 : (NR ys xs.length xs.length).scrub (fun h => !liveB (NR ys xs.length xs.length) h) = NR ys xs.length xs.length := NR_scrub fun i hi => by
    rw [← hl] at hi ⊢
    simp [liveB, NR_sub hi (hl ▸ hx)]
  rw [e1, Fr.scrub_none, Hp.scrub_none]
  have e2 : Hp.over (NR ys xs.length xs.length) ((NR xs xs.length xs.length).add H') (NR xs xs.length xs.length) = (NR ys ys.length ys.length).add H' := by
    funext h
    unfold Hp.over Hp.add
    rw [hl]
    cases e : NR ys xs.length xs.length h with
    | some B => rfl
    | none =>
      have := (NR_none hl).2 e
      rw [this]; simp
  rw [e2]
  exact hK
theorem fits_NRe {xs : List Nd} {n : Nat} (hn : n = xs.length) (h : HasNR H xs) : Fits H (fun _ => True) (.own 1000000 0 6 n) (nds xs) := by subst hn; exact fits_NR h
end
set_option maxHeartbeats 8000000 in
theorem lawParseNotation_ok (names : ByteArray) (s : ByteArray) (hl_names : names.size ≤ 9223372036854775807) (hl_s : s.size ≤ 9223372036854775807) : AC Try.prog 4 [.v (.string names), .v (.string s)] Hp.emp (fun _ => false) (retV (.v (.bool (true)))) := by
  have hsm := parP_small names s
  have hkb : ∀ j, (kd (parP names s).1 j).length ≤ 1048576 := fun j => Nat.le_trans (kB_kd hsm.2 j) (by decide)
  have htt := parP_tot names s
  obtain ⟨xs, exs⟩ : ∃ xs, xs = (parP names s).1 := ⟨_, rfl⟩
  obtain ⟨c, ec⟩ : ∃ c, c = (parP names s).2 := ⟨_, rfl⟩
  have hI := fun h1 h2 => implParseNotation_ok names s h1 h2
  have hS := fun h1 h2 => specParseNotation_ok names s h1 h2
  rw [← exs] at hsm hkb htt
  simp only [← exs, ← ec] at hI hS
  have hx := hsm.1
  clear hsm
  obtain ⟨ys, eys⟩ : ∃ ys, ys = mkL 1 xs xs.length := ⟨_, rfl⟩
  have hyl : ys.length = xs.length := by rw [eys, mkL_len]
  have hM := markNodesC_ok xs 1 hx hkb htt (by omega)
  have hH := heldNodes_ok xs 1 hx hkb htt (by omega)
  rw [← eys] at hM hH
  have hI := Hold.mk hI
  have hS := Hold.mk hS
  refine ac_of_awp (N := ⟨_, fun _ => false, fun _ _ => rfl⟩) Try.func4 rfl (by kernel_rfl) Try.ntmps4 (by simp) ?_
  simp only [argsFr, List.zipIdx_cons, List.zipIdx_nil, go_sem]
  repeat' (first | refine awp_seqK fun K hK => ?_ | (refine awp_regionK 10662219341791272148979 rfl ?_; simp only [List.map_cons, List.map_nil]; simp (maxSteps := 1000000) (dsimp := false) (implicitDefEqProofs := false) (disch := omega) only [wrap64, go_sem, NR_add_scr, NR_add_self, pM_low]) | (refine awp_regionQK 10662219341791272148979 (by kernel_rfl) (by kernel_rfl) (by kernel_rfl) ?_; simp only [List.map_cons, List.map_nil]; simp (maxSteps := 1000000) (dsimp := false) (implicitDefEqProofs := false) (disch := omega) only [wrap64, go_sem, NR_add_scr, NR_add_self, pM_low]) | refine awp_block ?_ | (refine awp_skip ?_; simp only [go_sem, NR_add_scr, NR_add_self, pM_low]) | (refine awp_exit ?_; simp only [go_sem, NR_add_scr, NR_add_self, pM_low]) | (refine awp_ret ?_; try simp only [go_sem, NR_add_scr, NR_add_self, pM_low]) | (refine awp_condP rfl ?_; try simp only [go_sem, NR_add_scr, NR_add_self, pM_low]) | (refine BrP.mk (fun h => ?_) (fun h => ?_) <;> try simp (dsimp := false) (disch := omega) only [wrap64]) | (refine Br.mk (fun h => ?_) (fun h => ?_) <;> try simp (dsimp := false) (disch := omega) only [wrap64]) | refine Ob.mk (by first | omega | (intro _ _; rfl) | trivial | (intros; trivial) | assumption | (intro i hi; have h0 : i = 0 := (by omega); subst h0; first | rfl | trivial) | (intro i hi; have h0 : i = 0 ∨ i = 1 := (by omega); rcases h0 with rfl | rfl <;> rfl) | (intro i hi; have h0 : i = 0 ∨ i = 1 ∨ i = 2 := (by omega); rcases h0 with rfl | rfl | rfl <;> rfl)) ?_ | ((first | ((first | refine atF (f := 22) ?_ | refine atQ (f := 22) ?_); refine cR (hac := hS.h (by omega) (by omega)) (hK := ?_) (hs := by simp only [scrub_tup, scF_vecF, List.map_cons, List.map_nil]; rfl)) | ((first | refine atF (f := 23) ?_ | refine atQ (f := 23) ?_); first | refine callPp rfl (hI.h (by omega) (by omega)) hx rfl ?_ | refine callPf (hI.h (by omega) (by omega)) hx ?_) | ((first | refine atF (f := 18) ?_ | refine atQ (f := 18) ?_); first | refine cV (hfit := .cons (fits_NR (HasNR.base hx)) (.cons (.refl _) .nil)) (hac := eqNodes_ok xs xs hx hkb) (hK := ?_) | refine cV (hfit := .cons (.refl _) (.cons (.refl _) .nil)) (hac := eqNodes_ok xs xs hx hkb) (hK := ?_)) | ((first | refine atF (f := 19) ?_ | refine atQ (f := 19) ?_); refine callMkC hyl hx hM rfl ?_) | ((first | refine atF (f := 24) ?_ | refine atQ (f := 24) ?_); refine cV (hfit := .cons (fits_NRe hyl.symm (HasNR.base (by omega))) (.cons (.refl _) .nil)) (hac := hH) (hK := ?_))); simp (maxSteps := 1000000) (dsimp := false) (implicitDefEqProofs := false) (disch := omega) only [wrap64, go_sem, NR_add_scr, NR_add_self, pM_low]) | apply_assumption -exfalso -symm)
  all_goals (first | (show endQ _ _ _ _ _ _ _; (repeat (rename (∀ (A : Fr) (H : Hp), AWP _ _ _ _ A H → _) => hK; clear hK)); (repeat (rename (Fr → Hp → Prop) => K; clear K))) | (show Exists _; (repeat (rename (∀ (A : Fr) (H : Hp), AWP _ _ _ _ A H → _) => hK; clear hK)); (repeat (rename (Fr → Hp → Prop) => K; clear K))) | skip)
  all_goals first | exact end_retV rfl rfl | omega
end Go.Proofs.Ytphpegemhnodcaa
