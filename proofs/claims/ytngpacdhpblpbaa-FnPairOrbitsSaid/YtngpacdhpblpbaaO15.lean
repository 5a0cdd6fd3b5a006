import Derived.Test.YtngpacdhpblpbaaO14
import Derived.Test.YtngpacdhpblpbaaO3
/- How many orbits of pairs there are: the reference. -/
section
namespace Go.Proofs.Ytngpacdhpblpbaa
open Go.Av
set_option linter.unusedSimpArgs false
set_option linter.unusedVariables false
attribute [local irreducible] AWP CallG Ob Br BrP Go.Av.Sub endQ AOps OpV AC thenA blkA opsVC opVC withA withArgs opsQ opQ CallQ withA2 withArgs2
open Go.Pm (Pm Rch img comp invp rowO runO JO gens2 pairP cntK loR)
theorem rowO_succ' (gs : List (List Int)) (f : List Int) (y k : Nat) : rowO gs f y (k + 1) = if (gs.getD k []).getD y 0 ∈ rowO gs f y k then rowO gs f y k else rowO gs f y k ++ [(gs.getD k []).getD y 0] := rfl
theorem specPairs_ok (n : Nat) (gs : List (List Int)) (hok : isGens (n : Int) gs) : AC Try.prog 24 [.v (.int .i64 ((n : Nat))), intss gs] Hp.emp (fun _ => false) (retV (.v (.int .i64 ((cntK n gs (n * n) : Nat))))) := by
  have hd : decide (isGens (n : Int) gs) = true := decide_eq_true hok
  obtain ⟨h1, h2, h3⟩ := gens_pm hok
  rw [Int.toNat_natCast] at h1
  have h1 := Hold.mk h1
  have hgl := hok.2.1
  obtain ⟨N, eN⟩ : ∃ N, N = n * n := ⟨_, rfl⟩
  have hN : N ≤ 400 := by rw [eN]; exact Nat.mul_le_mul (show n ≤ 20 by omega) (show n ≤ 20 by omega)
  have hNc : ((n : Nat) : Int) * (n : Nat) = (N : Nat) := by rw [eN]; simp
  have hNc := hNc
  rw [← eN]
  refine ac_of_awp (N := ⟨_, fun _ => false, fun _ _ => rfl⟩) Try.func24 rfl (by kernel_rfl) Try.ntmps24 (by simp) ?_
  simp only [argsFr, List.zipIdx_cons, List.zipIdx_nil, go_sem]
  repeat' (first | refine awp_seqK fun K hK => ?_ | (refine awp_regionK 1237940039358564318616522739 rfl ?_; simp only [List.map_cons, List.map_nil]; simp (maxSteps := 1000000) (dsimp := false) (implicitDefEqProofs := false) (disch := omega) only [wrap64, go_sem, hd, hNc]) | (refine awp_regionQK 1237940039358564318616522739 (by kernel_rfl) (by kernel_rfl) (by kernel_rfl) ?_; simp only [List.map_cons, List.map_nil]; simp (maxSteps := 1000000) (dsimp := false) (implicitDefEqProofs := false) (disch := omega) only [wrap64, go_sem, hd, hNc]) | refine awp_block ?_ | (refine awp_skip ?_; simp only [go_sem, hd, hNc]) | (refine awp_exit ?_; simp only [go_sem, hd, hNc]) | (refine awp_ret ?_; try simp only [go_sem, hd, hNc]) | (refine awp_condP rfl ?_; try simp only [go_sem, hd, hNc]) | (refine BrP.mk (fun h => ?_) (fun h => ?_) <;> try simp (dsimp := false) (disch := omega) only [wrap64]) | (refine Br.mk (fun h => ?_) (fun h => ?_) <;> try simp (dsimp := false) (disch := omega) only [wrap64]) | refine Ob.mk (by first | omega | (intro _ _; rfl) | trivial | (intros; trivial) | assumption | (intro i hi; have h0 : i = 0 := (by omega); subst h0; first | rfl | trivial) | (intro i hi; have h0 : i = 0 ∨ i = 1 := (by omega); rcases h0 with rfl | rfl <;> rfl) | (intro i hi; have h0 : i = 0 ∨ i = 1 ∨ i = 2 := (by omega); rcases h0 with rfl | rfl | rfl <;> rfl)) ?_ | ((first | ((first | refine atF (f := 27) ?_ | refine atQ (f := 27) ?_); (first | (refine cV (hac := specIsGeneratorSet_ok (n : Int) gs) (hK := ?_)) | (refine cQV (hac := specIsGeneratorSet_ok (n : Int) gs) (hK := ?_))))); simp (maxSteps := 1000000) (dsimp := false) (implicitDefEqProofs := false) (disch := omega) only [wrap64, go_sem, hd, hNc]) | apply_assumption -exfalso -symm)
  all_goals (first | (show endQ _ _ _ _ _ _ _; (repeat (rename (∀ (A : Fr) (H : Hp), AWP _ _ _ _ A H → _) => hK; clear hK)); (repeat (rename (Fr → Hp → Prop) => K; clear K))) | (show Exists _; (repeat (rename (∀ (A : Fr) (H : Hp), AWP _ _ _ _ A H → _) => hK; clear hK)); (repeat (rename (Fr → Hp → Prop) => K; clear K))) | skip)
  refine awp_loop (ι := Nat × List Bool) (fun z => [(7, .v (.int .i64 ((z.1 : Nat)))), (6, .own 19 0 1 N), (5, .v (.int .i64 ((cntK n gs z.1 : Nat)))), (0, .v (.int .i64 ((n : Nat)))), (1, .list false 1 (gs).length (cM ints [] (gs)))]) (fun z => Hp.emp.upd 19 (.cells N (cM bv false z.2))) (fun z => z.1 ≤ N ∧ Hold (Sn N z.2 fun y => ∃ u, u < z.1 ∧ u / n ≠ u % n ∧ Rch (gens2 n gs) u y)) (fun z => N - z.1) (0, List.replicate N false) ?_ ?_ ?_
  · refine ⟨Nat.zero_le _, ⟨⟨by rw [List.length_replicate], fun y hy => ?_⟩⟩⟩
    have : (List.replicate N false).getD y false = false := by rw [List.getD_eq_getElem?_getD, List.getElem?_replicate]; split <;> rfl
    rw [this]
    exact ⟨(fun h => by cases h), fun ⟨u, hu, _⟩ => absurd hu (Nat.not_lt_zero _)⟩
  · exact Sub.toL (by simp only [go_sem] <;> first | trivial | (simp only [Option.some.injEq, AV.v.injEq, AV.own.injEq, AV.list.injEq, Value.int.injEq, Value.bool.injEq, true_and, and_true]; first | omega | (simp; done)) | (simp; done) | (simp; omega)) (Hp.le_refl _)
  rintro ⟨c, sn⟩ ⟨hc, hs⟩
  dsimp only at hc hs ⊢
  have hsl := hs.h.1
  have hcn := Go.Pm.cntK_le n gs c
  have hcs := Hold.mk (Go.Pm.cntK_succ n gs c)
  have hq1 : c / n ≤ c := Nat.div_le_self c n
  have hq2 : c % n ≤ c := Nat.mod_le c n
  have htd : ((c : Nat) : Int).tdiv ((n : Nat) : Int) = ((c / n : Nat) : Int) := by rw [Int.tdiv_eq_ediv_of_nonneg (by omega)]; simp
  have htm : ((c : Nat) : Int).tmod ((n : Nat) : Int) = ((c % n : Nat) : Int) := by rw [Int.tmod_eq_emod_of_nonneg (by omega)]; simp
  obtain ⟨ca, eca⟩ : ∃ a, a = c / n := ⟨_, rfl⟩
  obtain ⟨cb, ecb⟩ : ∃ b, b = c % n := ⟨_, rfl⟩
  rw [← eca] at htd hq1
  rw [← ecb] at htm hq2
  have hdab : (c / n = c % n) = (ca = cb) := by rw [eca, ecb]
  clear eca ecb
  repeat' (first | (show False; omega) | refine awp_seqK fun K hK => ?_ | (refine awp_regionK 1237940039358564318616522739 rfl ?_; simp only [List.map_cons, List.map_nil]; simp (maxSteps := 1000000) (dsimp := false) (implicitDefEqProofs := false) (disch := omega) only [wrap64, go_sem, hNc, htd, htm]) | (refine awp_regionQK 1237940039358564318616522739 (by kernel_rfl) (by kernel_rfl) (by kernel_rfl) ?_; simp only [List.map_cons, List.map_nil]; simp (maxSteps := 1000000) (dsimp := false) (implicitDefEqProofs := false) (disch := omega) only [wrap64, go_sem, hNc, htd, htm]) | refine awp_block ?_ | (refine awp_skip ?_; simp only [go_sem, hNc, htd, htm]) | (refine awp_exit ?_; simp only [go_sem, hNc, htd, htm]) | (refine awp_ret ?_; try simp only [go_sem, hNc, htd, htm]) | (refine awp_condP rfl ?_; try simp only [go_sem, hNc, htd, htm]) | (refine BrP.mk (fun h => ?_) (fun h => ?_) <;> try simp (dsimp := false) (disch := omega) only [wrap64]) | (refine Br.mk (fun h => ?_) (fun h => ?_) <;> try simp (dsimp := false) (disch := omega) only [wrap64]) | refine Ob.mk (by first | omega | (intro _ _; rfl) | trivial | (intros; trivial) | assumption | (intro i hi; have h0 : i = 0 := (by omega); subst h0; first | rfl | trivial) | (intro i hi; have h0 : i = 0 ∨ i = 1 := (by omega); rcases h0 with rfl | rfl <;> rfl) | (intro i hi; have h0 : i = 0 ∨ i = 1 ∨ i = 2 := (by omega); rcases h0 with rfl | rfl | rfl <;> rfl)) ?_ | apply_assumption -exfalso -symm)
  all_goals (first | (show endQ _ _ _ _ _ _ _; (repeat (rename (∀ (A : Fr) (H : Hp), AWP _ _ _ _ A H → _) => hK; clear hK)); (repeat (rename (Fr → Hp → Prop) => K; clear K))) | (show Exists _; (repeat (rename (∀ (A : Fr) (H : Hp), AWP _ _ _ _ A H → _) => hK; clear hK)); (repeat (rename (Fr → Hp → Prop) => K; clear K))) | skip)
  · have hdg : c / n = c % n := hdab.mpr (by omega)
    have e1 : cntK n gs (c + 1) = cntK n gs c := by rw [hcs.h, if_neg (fun h => h.1 hdg)]
    refine ⟨(c + 1, sn), ⟨by dsimp only; omega, ⟨hs.h.imp fun y hy => ⟨fun ⟨u, hu, hr⟩ => ⟨u, by omega, hr⟩, fun ⟨u, hu, hr⟩ => ?_⟩⟩⟩, by dsimp only; omega, ?_⟩
    · by_cases e : u = c
      · subst e; exact absurd hdg hr.1
      · exact ⟨u, by omega, hr⟩
    · dsimp only
      rw [e1]
      exact Sub.toL (by simp only [go_sem] <;> first | trivial | (simp only [Option.some.injEq, AV.v.injEq, AV.own.injEq, AV.list.injEq, Value.int.injEq, Value.bool.injEq, true_and, and_true]; first | omega | (simp; done)) | (simp; done) | (simp; omega)) (Hp.le_refl _)
  · obtain ⟨u0, hu0, hd0, hr0⟩ := (hs.h.2 c (by omega)).1 (by assumption)
    have hlo : ¬ loR (Rch (gens2 n gs)) c = true := fun h => (Go.Pm.loR_iff _ _).1 h u0 hu0 hr0
    have e1 : cntK n gs (c + 1) = cntK n gs c := by rw [hcs.h, if_neg (fun h => hlo h.2)]
    refine ⟨(c + 1, sn), ⟨by dsimp only; omega, ⟨hs.h.imp fun y hy => ⟨fun ⟨u, hu, hr⟩ => ⟨u, by omega, hr⟩, fun ⟨u, hu, hr⟩ => ?_⟩⟩⟩, by dsimp only; omega, ?_⟩
    · by_cases e : u = c
      · subst e; exact ⟨u0, hu0, hd0, hr0.trans hr.2⟩
      · exact ⟨u, by omega, hr⟩
    · dsimp only
      rw [e1]
      exact Sub.toL (by simp only [go_sem] <;> first | trivial | (simp only [Option.some.injEq, AV.v.injEq, AV.own.injEq, AV.list.injEq, Value.int.injEq, Value.bool.injEq, true_and, and_true]; first | omega | (simp; done)) | (simp; done) | (simp; omega)) (Hp.le_refl _)
  · have hcN : c < N := by omega
    have hnd : c / n ≠ c % n := fun h => absurd (hdab.mp h) (by omega)
    have hnu : ¬ ∃ u, u < c ∧ u / n ≠ u % n ∧ Rch (gens2 n gs) u c := fun h => absurd ((hs.h.2 c hcN).2 h) (by first | assumption | (rw [Bool.not_eq_true]; assumption))
    have hlo : loR (Rch (gens2 n gs)) c = true := (Go.Pm.loR_iff _ _).2 fun u hu hr => hnu ⟨u, hu, fun e => hnd ((Go.Pm.diag_iff h1.h (by omega) hr).1 e), hr⟩
    have e1 : cntK n gs (c + 1) = cntK n gs c + 1 := by rw [hcs.h, if_pos ⟨hnd, hlo⟩]
    have hG : Hold (∀ g ∈ gens2 n gs, Pm N g) := ⟨by rw [eN]; exact Go.Pm.gens2_pm h1.h⟩
    have hGl : (gens2 n gs).length = gs.length := by unfold gens2; rw [List.length_map]
    have hnu := Hold.mk hnu
    refine awp_loop (ι := Nat × List Bool) (fun z => [(9, .v (.int .i64 ((z.1 : Nat)))), (8, .own 46 0 1 (runO (gens2 n gs) c z.1).length), (7, .v (.int .i64 ((c : Nat)))), (6, .own 19 0 1 N), (5, .v (.int .i64 (((cntK n gs c : Nat) : Int) + 1))), (0, .v (.int .i64 ((n : Nat)))), (1, .list false 1 (gs).length (cM ints [] (gs)))]) (fun z => (Hp.emp.upd 19 (.cells N (cM bv false z.2))).upd 46 (.cells (runO (gens2 n gs) c z.1).length (cM iv 0 (runO (gens2 n gs) c z.1)))) (fun z => Hold ((∀ j, j < z.1 → j < (runO (gens2 n gs) c j).length) ∧ Sn N z.2 fun y => (∃ u, u < c ∧ u / n ≠ u % n ∧ Rch (gens2 n gs) u y) ∨ (y : Int) ∈ runO (gens2 n gs) c z.1)) (fun z => N - z.1) (0, sn.set c true) ⟨⟨fun j hj => absurd hj (Nat.not_lt_zero _), (hs.h.set hcN).imp fun y hy => ⟨fun h => h.elim .inl fun h => .inr (by rw [h]; simp [runO]), fun h => h.elim .inl fun h => .inr (by simp [runO] at h; omega)⟩⟩⟩ (Sub.toL (by simp only [go_sem] <;> first | trivial | (simp only [Option.some.injEq, AV.v.injEq, AV.own.injEq, AV.list.injEq, Value.int.injEq, Value.bool.injEq, true_and, and_true]; first | omega | (simp [runO]; done)) | (simp [runO]; done) | (simp [runO]; omega)) (by (repeat' (first | exact Hp.le_emp _ | exact Hp.le_refl _ | refine Hp.le_upd ?_ ?_)); all_goals (first | rfl | (simp only [go_sem]; first | rfl | (refine cellsE ?_ ?_ <;> (simp [runO])) | (simp [runO]))))) ?_
    clear hs hsl
    rintro ⟨i, sm⟩ hv
    dsimp only at hv ⊢
    have hsl := hv.h.2.1
    have hJ := Hold.mk (Go.Pm.runO_J hG.h hcN i hv.h.1)
    have hle := hJ.h.len
    have hle2 := hJ.h.le
    repeat' (first | (show False; omega) | refine awp_seqK fun K hK => ?_ | (refine awp_regionK 1237940039358564318616522739 rfl ?_; simp only [List.map_cons, List.map_nil]; simp (maxSteps := 1000000) (dsimp := false) (implicitDefEqProofs := false) (disch := omega) only [wrap64, go_sem]) | (refine awp_regionQK 1237940039358564318616522739 (by kernel_rfl) (by kernel_rfl) (by kernel_rfl) ?_; simp only [List.map_cons, List.map_nil]; simp (maxSteps := 1000000) (dsimp := false) (implicitDefEqProofs := false) (disch := omega) only [wrap64, go_sem]) | refine awp_block ?_ | (refine awp_skip ?_; simp only [go_sem]) | (refine awp_exit ?_; simp only [go_sem]) | (refine awp_ret ?_; try simp only [go_sem]) | (refine awp_condP rfl ?_; try simp only [go_sem]) | (refine BrP.mk (fun h => ?_) (fun h => ?_) <;> try simp (dsimp := false) (disch := omega) only [wrap64]) | (refine Br.mk (fun h => ?_) (fun h => ?_) <;> try simp (dsimp := false) (disch := omega) only [wrap64]) | refine Ob.mk (by first | omega | (intro _ _; rfl) | trivial | (intros; trivial) | assumption | (intro i hi; have h0 : i = 0 := (by omega); subst h0; first | rfl | trivial) | (intro i hi; have h0 : i = 0 ∨ i = 1 := (by omega); rcases h0 with rfl | rfl <;> rfl) | (intro i hi; have h0 : i = 0 ∨ i = 1 ∨ i = 2 := (by omega); rcases h0 with rfl | rfl | rfl <;> rfl)) ?_ | apply_assumption -exfalso -symm)
    all_goals (first | (show endQ _ _ _ _ _ _ _; (repeat (rename (∀ (A : Fr) (H : Hp), AWP _ _ _ _ A H → _) => hK; clear hK)); (repeat (rename (Fr → Hp → Prop) => K; clear K))) | (show Exists _; (repeat (rename (∀ (A : Fr) (H : Hp), AWP _ _ _ _ A H → _) => hK; clear hK)); (repeat (rename (Fr → Hp → Prop) => K; clear K))) | skip)
    · have hif : i < (runO (gens2 n gs) c i).length := by omega
      have hr := runO_succ (gens2 n gs) c i hif
      obtain ⟨y, ey, hy, hyr⟩ := hJ.h.get hif
      obtain ⟨f, ef⟩ : ∃ f, f = runO (gens2 n gs) c i := ⟨_, rfl⟩
      rw [← ef] at hJ hle hle2 ey hr hif ⊢
      have hv2 := Hold.mk hv.h.2
      rw [← ef] at hv2
      have hv1 := Hold.mk hv.h.1
      clear hv
      have eyn : (f.getD i 0).toNat = y := by omega
      rw [eyn, hGl] at hr
      obtain ⟨hya, hyb, hyc⟩ := Go.Pm.pair_bd (n := n) (c := y) (by omega)
      have hta : ((y : Nat) : Int).tdiv ((n : Nat) : Int) = ((y / n : Nat) : Int) := by rw [Int.tdiv_eq_ediv_of_nonneg (by omega)]; simp
      have htb : ((y : Nat) : Int).tmod ((n : Nat) : Int) = ((y % n : Nat) : Int) := by rw [Int.tmod_eq_emod_of_nonneg (by omega)]; simp
      obtain ⟨ya, eya⟩ : ∃ a, a = y / n := ⟨_, rfl⟩
      obtain ⟨yb, eyb⟩ : ∃ b, b = y % n := ⟨_, rfl⟩
      rw [← eya] at hta hya
      rw [← eyb] at htb hyb
      refine awp_loop (ι := Nat × List Bool) (fun z => [(10, .v (.int .i64 ((z.1 : Nat)))), (9, .v (.int .i64 ((i : Nat)))), (8, .own 46 0 1 (rowO (gens2 n gs) f y z.1).length), (7, .v (.int .i64 ((c : Nat)))), (6, .own 19 0 1 N), (5, .v (.int .i64 (((cntK n gs c : Nat) : Int) + 1))), (0, .v (.int .i64 ((n : Nat)))), (1, .list false 1 (gs).length (cM ints [] (gs)))]) (fun z => (Hp.emp.upd 19 (.cells N (cM bv false z.2))).upd 46 (.cells (rowO (gens2 n gs) f y z.1).length (cM iv 0 (rowO (gens2 n gs) f y z.1)))) (fun z => z.1 ≤ gs.length ∧ Hold (Sn N z.2 fun v => (∃ u, u < c ∧ u / n ≠ u % n ∧ Rch (gens2 n gs) u v) ∨ (v : Int) ∈ rowO (gens2 n gs) f y z.1)) (fun z => gs.length - z.1) (0, sm) ⟨Nat.zero_le _, ⟨hv2.h⟩⟩ (Sub.toL (by simp only [go_sem] <;> first | trivial | (simp only [Option.some.injEq, AV.v.injEq, AV.own.injEq, AV.list.injEq, Value.int.injEq, Value.bool.injEq, true_and, and_true]; first | omega | (simp [rowO]; done)) | (simp [rowO]; done) | (simp [rowO]; omega)) (by (repeat' (first | exact Hp.le_emp _ | exact Hp.le_refl _ | refine Hp.le_upd ?_ ?_)); all_goals (first | rfl | (simp only [go_sem]; first | rfl | (refine cellsE ?_ ?_ <;> (simp [rowO])) | (simp [rowO]))))) ?_
      clear hv2 hsl
      rintro ⟨k, sk⟩ ⟨hk, hv⟩
      dsimp only at hk hv ⊢
      have hsl := hv.h.1
      have hJk := Hold.mk ((hJ.h.rows hG.h hcN hif) k (by omega))
      rw [eyn] at hJk
      have hlk := hJk.h.len
      have hl0 := Go.Pm.rowO_len (gs := gens2 n gs) (f := f) (y := y) k
      have hgi : (rowO (gens2 n gs) f y k).getD i 0 = (y : Int) := by rw [Go.Pm.rowO_get k hif]; exact ey
      have hpk : k < gs.length → Pm n (gs.getD k []) := fun h => h1.h _ (by rw [List.getD_eq_getElem?_getD, List.getElem?_eq_getElem h]; exact List.getElem_mem h)
      have hlen : k < gs.length → (gs.getD k []).length = n := fun h => (hpk h).1
      obtain ⟨ga, ega⟩ : ∃ a, a = img (gs.getD k []) ya := ⟨_, rfl⟩
      obtain ⟨gb, egb⟩ : ∃ b, b = img (gs.getD k []) yb := ⟨_, rfl⟩
      obtain ⟨M, eM⟩ : ∃ M, M = ga * n := ⟨_, rfl⟩
      have hga : k < gs.length → (gs.getD k []).getD ya 0 = ((ga : Nat) : Int) := fun h => by rw [ega]; exact (hpk h).get_eq hya
      have hgb : k < gs.length → (gs.getD k []).getD yb 0 = ((gb : Nat) : Int) := fun h => by rw [egb]; exact (hpk h).get_eq hyb
      have hmul : ((ga : Nat) : Int) * ((n : Nat) : Int) = ((M : Nat) : Int) := by rw [eM]; simp
      have hbd : ¬ k < gs.length ∨ (ga < n ∧ gb < n ∧ M + gb < N) := by
        by_cases h : k < gs.length
        · have b1 : ga < n := by rw [ega]; exact (hpk h).img_lt hya
          have b2 : gb < n := by rw [egb]; exact (hpk h).img_lt hyb
          exact .inr ⟨b1, b2, by rw [eM, eN]; exact Go.Pm.pair_lt b1 b2⟩
        · exact .inl h
      have hT : k < gs.length → ((gens2 n gs).getD k []).getD y 0 = ((M + gb : Nat) : Int) := fun h => by
        have e2 : (gens2 n gs).getD k [] = pairP n (gs.getD k []) := by unfold gens2; simp [List.getD_eq_getElem?_getD, h]
        rw [e2, Go.Pm.pairP_get (by omega), ← eya, ← eyb, eM, ega, egb]
      have hTr : k < gs.length → Rch (gens2 n gs) c (M + gb) := fun h => by
        have hm : (gens2 n gs).getD k [] ∈ gens2 n gs := by
          have h' : k < (gens2 n gs).length := by omega
          rw [List.getD_eq_getElem?_getD, List.getElem?_eq_getElem h']; exact List.getElem_mem h'
        have := Rch.step hyr hm
        have e3 : img ((gens2 n gs).getD k []) y = M + gb := by show (((gens2 n gs).getD k []).getD y 0).toNat = _; rw [hT h]; omega
        rwa [e3] at this
      have hpk := Hold.mk hpk
      have hT := Hold.mk hT
      have hTr := Hold.mk hTr
      have hsucc := rowO_succ' (gens2 n gs) f y k
      clear eya eyb ega egb
      repeat' (first | (show False; omega) | refine awp_seqK fun K hK => ?_ | (refine awp_regionK 1237940039358564318616522739 rfl ?_; simp only [List.map_cons, List.map_nil]; simp (maxSteps := 1000000) (dsimp := false) (implicitDefEqProofs := false) (disch := omega) only [wrap64, go_sem, hgi, hlen, hta, htb, hga, hgb, hmul]) | (refine awp_regionQK 1237940039358564318616522739 (by kernel_rfl) (by kernel_rfl) (by kernel_rfl) ?_; simp only [List.map_cons, List.map_nil]; simp (maxSteps := 1000000) (dsimp := false) (implicitDefEqProofs := false) (disch := omega) only [wrap64, go_sem, hgi, hlen, hta, htb, hga, hgb, hmul]) | refine awp_block ?_ | (refine awp_skip ?_; simp only [go_sem, hgi, hlen, hta, htb, hga, hgb, hmul]) | (refine awp_exit ?_; simp only [go_sem, hgi, hlen, hta, htb, hga, hgb, hmul]) | (refine awp_ret ?_; try simp only [go_sem, hgi, hlen, hta, htb, hga, hgb, hmul]) | (refine awp_condP rfl ?_; try simp only [go_sem, hgi, hlen, hta, htb, hga, hgb, hmul]) | (refine BrP.mk (fun h => ?_) (fun h => ?_) <;> try simp (dsimp := false) (disch := omega) only [wrap64]) | (refine Br.mk (fun h => ?_) (fun h => ?_) <;> try simp (dsimp := false) (disch := omega) only [wrap64]) | refine Ob.mk (by first | omega | (intro _ _; rfl) | trivial | (intros; trivial) | assumption | (intro i hi; have h0 : i = 0 := (by omega); subst h0; first | rfl | trivial) | (intro i hi; have h0 : i = 0 ∨ i = 1 := (by omega); rcases h0 with rfl | rfl <;> rfl) | (intro i hi; have h0 : i = 0 ∨ i = 1 ∨ i = 2 := (by omega); rcases h0 with rfl | rfl | rfl <;> rfl)) ?_ | apply_assumption -exfalso -symm)
      all_goals (first | (show endQ _ _ _ _ _ _ _; (repeat (rename (∀ (A : Fr) (H : Hp), AWP _ _ _ _ A H → _) => hK; clear hK)); (repeat (rename (Fr → Hp → Prop) => K; clear K))) | (show Exists _; (repeat (rename (∀ (A : Fr) (H : Hp), AWP _ _ _ _ A H → _) => hK; clear hK)); (repeat (rename (Fr → Hp → Prop) => K; clear K))) | skip)
      · have hkl : k < gs.length := by omega
        have htn : (((M : Nat) : Int) + ((gb : Nat) : Int)).toNat = M + gb := by omega
        have hs1 : sk.getD (M + gb) false = true := by rw [← htn]; assumption
        have hmem : ((M + gb : Nat) : Int) ∈ rowO (gens2 n gs) f y k := by
          rcases (hv.h.2 (M + gb) (by omega)).1 hs1 with ⟨u, hu, hdd, hru⟩ | h
          · exact absurd ⟨u, hu, hdd, hru.trans ((hTr.h hkl).symm hG.h hcN)⟩ hnu.h
          · exact h
        rw [hT.h hkl, if_pos hmem] at hsucc
        refine ⟨(k + 1, sk), ⟨by dsimp only; omega, ?_⟩, by dsimp only; omega, ?_⟩
        · dsimp only; rw [hsucc]; exact hv
        · dsimp only; rw [hsucc]; exact Sub.toL (by simp only [go_sem] <;> first | trivial | (simp only [Option.some.injEq, AV.v.injEq, AV.own.injEq, AV.list.injEq, Value.int.injEq, Value.bool.injEq, true_and, and_true]; first | omega | (simp; done)) | (simp; done) | (simp; omega)) (Hp.le_refl _)
      · have hkl : k < gs.length := by omega
        have htn : (((M : Nat) : Int) + ((gb : Nat) : Int)).toNat = M + gb := by omega
        have hs1 : ¬ sk.getD (M + gb) false = true := by rw [← htn]; first | assumption | (rw [Bool.not_eq_true]; assumption)
        have hmem : ¬ ((M + gb : Nat) : Int) ∈ rowO (gens2 n gs) f y k := fun h => hs1 ((hv.h.2 (M + gb) (by omega)).2 (.inr h))
        rw [hT.h hkl, if_neg hmem] at hsucc
        have l1 : (rowO (gens2 n gs) f y (k + 1)).length = (rowO (gens2 n gs) f y k).length + 1 := by rw [hsucc, List.length_append, List.length_singleton]
        refine ⟨(k + 1, sk.set (M + gb) true), ⟨by dsimp only; omega, ⟨(hv.h.set (by omega : M + gb < N)).imp fun v hv' => ?_⟩⟩, by dsimp only; omega, ?_⟩
        · dsimp only
          rw [hsucc, List.mem_append, List.mem_singleton]
          exact ⟨fun h => h.elim (fun h => h.elim .inl fun h => .inr (.inl h)) fun h => .inr (.inr (by omega)), fun h => h.elim (fun h => .inl (.inl h)) fun h => h.elim (fun h => .inl (.inr h)) fun h => .inr (by omega)⟩
        · dsimp only
          rw [l1, hsucc, htn]
          exact Sub.toL (by simp only [go_sem] <;> first | trivial | (simp only [Option.some.injEq, AV.v.injEq, AV.own.injEq, AV.list.injEq, Value.int.injEq, Value.bool.injEq, true_and, and_true]; first | omega | (simp; done)) | (simp; done) | (simp; omega)) (by (repeat' (first | exact Hp.le_emp _ | exact Hp.le_refl _ | refine Hp.le_upd ?_ ?_)); all_goals (first | rfl | (simp only [go_sem]; first | rfl | (refine cellsE ?_ ?_ <;> (simp)) | (simp))))
      · have ek : k = gs.length := by omega
        subst ek
        refine ⟨(i + 1, sk), ⟨fun j hj => ?_, ?_⟩, by dsimp only; omega, ?_⟩
        · dsimp only at hj
          by_cases e : j = i
          · subst e; rw [← ef]; exact hif
          · exact hv1.h j (by omega)
        · dsimp only; rw [hr]; exact hv.h
        · dsimp only; rw [hr]; exact Sub.toL (by simp only [go_sem] <;> first | trivial | (simp only [Option.some.injEq, AV.v.injEq, AV.own.injEq, AV.list.injEq, Value.int.injEq, Value.bool.injEq, true_and, and_true]; first | omega | (simp; done)) | (simp; done) | (simp; omega)) (by (repeat' (first | exact Hp.le_emp _ | exact Hp.le_refl _ | refine Hp.le_upd ?_ ?_)); all_goals (first | rfl | (simp only [go_sem]; first | rfl | (refine cellsE ?_ ?_ <;> (simp)) | (simp))))
    · have hend := Go.Pm.runO_end hG.h hcN hv.h.1 (by omega : ¬ i < (runO (gens2 n gs) c i).length)
      refine ⟨(c + 1, sm), ⟨by dsimp only; omega, ⟨hv.h.2.imp fun y hy => ?_⟩⟩, by dsimp only; omega, ?_⟩
      · rw [hend.2, Go.Pm.mem_clsF]
        exact ⟨fun h => h.elim (fun ⟨u, hu, hr⟩ => ⟨u, by omega, hr⟩) fun ⟨z, e, hz, hr⟩ => ⟨c, by omega, hnd, by have : z = y := by omega
                                                                                                                  rw [← this]; exact hr⟩, fun ⟨u, hu, hr⟩ => by
          by_cases e : u = c
          · subst e; exact .inr ⟨y, rfl, hy, hr.2⟩
          · exact .inl ⟨u, by omega, hr⟩⟩
      · dsimp only
        rw [e1]
        exact Sub.toL (by simp only [go_sem] <;> first | trivial | (simp only [Option.some.injEq, AV.v.injEq, AV.own.injEq, AV.list.injEq, Value.int.injEq, Value.bool.injEq, true_and, and_true]; first | omega | (simp; done)) | (simp; done) | (simp; omega)) (by (repeat' (first | exact Hp.le_emp _ | exact Hp.le_refl _ | refine Hp.le_upd ?_ ?_)); all_goals (first | rfl | (simp only [go_sem]; first | rfl | (refine cellsE ?_ ?_ <;> (simp)) | (simp))))
  · have e : c = N := by omega
    subst e
    exact end_retV rfl rfl
/-- What PairOrbitCount answers. -/
noncomputable def pocP (n : Int) (gs : List (List Int)) : Int := if isGens n gs then ((cntK n.toNat gs (n.toNat * n.toNat) : Nat) : Int) else 0
theorem specPairOrbitCount_ok (n : Int) (gs : List (List Int)) : AC Try.prog 24 [.v (.int .i64 (n)), intss gs] Hp.emp (fun _ => false) (retV (.v (.int .i64 (pocP n gs)))) := by
  by_cases h : isGens n gs
  · obtain ⟨_, _, _, _, e⟩ := gens_P h
    have := specPairs_ok n.toNat gs (by rw [← e]; exact h)
    rw [← e] at this
    unfold pocP; rw [if_pos h]; exact this
  · have hd : decide (isGens n gs) = false := decide_eq_false h
    rw [show pocP n gs = 0 from if_neg h]
    refine ac_of_awp (N := ⟨_, fun _ => false, fun _ _ => rfl⟩) Try.func24 rfl (by kernel_rfl) Try.ntmps24 (by simp) ?_
    simp only [argsFr, List.zipIdx_cons, List.zipIdx_nil, go_sem]
    repeat' (first | refine awp_seqK fun K hK => ?_ | (refine awp_regionK 1237940039358564318616522739 rfl ?_; simp only [List.map_cons, List.map_nil]; simp (maxSteps := 1000000) (dsimp := false) (implicitDefEqProofs := false) (disch := omega) only [wrap64, go_sem, hd]) | (refine awp_regionQK 1237940039358564318616522739 (by kernel_rfl) (by kernel_rfl) (by kernel_rfl) ?_; simp only [List.map_cons, List.map_nil]; simp (maxSteps := 1000000) (dsimp := false) (implicitDefEqProofs := false) (disch := omega) only [wrap64, go_sem, hd]) | refine awp_block ?_ | (refine awp_skip ?_; simp only [go_sem, hd]) | (refine awp_exit ?_; simp only [go_sem, hd]) | (refine awp_ret ?_; try simp only [go_sem, hd]) | (refine awp_condP rfl ?_; try simp only [go_sem, hd]) | (refine BrP.mk (fun h => ?_) (fun h => ?_) <;> try simp (dsimp := false) (disch := omega) only [wrap64]) | (refine Br.mk (fun h => ?_) (fun h => ?_) <;> try simp (dsimp := false) (disch := omega) only [wrap64]) | refine Ob.mk (by first | omega | (intro _ _; rfl) | trivial | (intros; trivial) | assumption | (intro i hi; have h0 : i = 0 := (by omega); subst h0; first | rfl | trivial) | (intro i hi; have h0 : i = 0 ∨ i = 1 := (by omega); rcases h0 with rfl | rfl <;> rfl) | (intro i hi; have h0 : i = 0 ∨ i = 1 ∨ i = 2 := (by omega); rcases h0 with rfl | rfl | rfl <;> rfl)) ?_ | ((first | ((first | refine atF (f := 27) ?_ | refine atQ (f := 27) ?_); (first | (refine cV (hac := specIsGeneratorSet_ok n gs) (hK := ?_)) | (refine cQV (hac := specIsGeneratorSet_ok n gs) (hK := ?_))))); simp (maxSteps := 1000000) (dsimp := false) (implicitDefEqProofs := false) (disch := omega) only [wrap64, go_sem, hd]) | apply_assumption -exfalso -symm)
    all_goals (first | (show endQ _ _ _ _ _ _ _; (repeat (rename (∀ (A : Fr) (H : Hp), AWP _ _ _ _ A H → _) => hK; clear hK)); (repeat (rename (Fr → Hp → Prop) => K; clear K))) | (show Exists _; (repeat (rename (∀ (A : Fr) (H : Hp), AWP _ _ _ _ A H → _) => hK; clear hK)); (repeat (rename (Fr → Hp → Prop) => K; clear K))) | skip)
    exact end_retV rfl rfl
end Go.Proofs.Ytngpacdhpblpbaa
end
/- How many orbits of pairs there are: the program. -/
section
namespace Go.Proofs.Ytngpacdhpblpbaa
open Go.Av
set_option linter.unusedSimpArgs false
set_option linter.unusedVariables false
attribute [local irreducible] AWP CallG Ob Br BrP Go.Av.Sub endQ AOps OpV AC thenA blkA opsVC opVC withA withArgs opsQ opQ CallQ withA2 withArgs2
open Go.Pm (Pm Rch img comp invp rowO runO JO gens2 pairP cntK loR)
/-- Pairs of points, one behind the other. -/
def flP (n : Nat) (l : List Int) : List Int := l.flatMap fun v => [((v.toNat / n : Nat) : Int), ((v.toNat % n : Nat) : Int)]
theorem flP_len (n : Nat) (l : List Int) : (flP n l).length = 2 * l.length := by
  unfold flP
  induction l with
  | nil => rfl
  | cons v l ih => rw [List.flatMap_cons, List.length_append, ih, List.length_cons]; simp only [List.length_cons, List.length_nil]; omega
theorem flP_app (n : Nat) (a b : List Int) : flP n (a ++ b) = flP n a ++ flP n b := by unfold flP; rw [List.flatMap_append]
theorem flP_get (n : Nat) : ∀ (l : List Int) (j : Nat), j < l.length → (flP n l).getD (2 * j) 0 = (((l.getD j 0).toNat / n : Nat) : Int) ∧ (flP n l).getD (2 * j + 1) 0 = (((l.getD j 0).toNat % n : Nat) : Int)
  | [], j, h => absurd h (Nat.not_lt_zero _)
  | v :: l, 0, _ => ⟨rfl, rfl⟩
  | v :: l, j + 1, h => by
    have ih := flP_get n l j (by simpa using h)
    have e : flP n (v :: l) = ((v.toNat / n : Nat) : Int) :: ((v.toNat % n : Nat) : Int) :: flP n l := by unfold flP; rw [List.flatMap_cons]; rfl
    rw [e, show 2 * (j + 1) = 2 * j + 1 + 1 by omega]
    simpa using ih
/-- Which pairs have been met: twenty places a row. -/
def seF (n : Nat) (sn : List Bool) (i : Nat) : AV := .v (.bool (decide (i / 20 < n) && decide (i % 20 < n) && sn.getD (i / 20 * n + i % 20) false))
theorem seF_at {n : Nat} (sn : List Bool) {a b : Nat} (ha : a < n) (hb : b < n) (hn : n ≤ 20) : seF n sn (a * 20 + b) = .v (.bool (sn.getD (a * n + b) false)) := by
  unfold seF
  rw [show (a * 20 + b) / 20 = a by omega, show (a * 20 + b) % 20 = b by omega]
  simp [ha, hb]
theorem seF_set {n : Nat} {sn : List Bool} {a b : Nat} (ha : a < n) (hb : b < n) (hn : n ≤ 20) (hl : a * n + b < sn.length) : setF (seF n sn) (a * 20 + b) (.v (.bool true)) = seF n (sn.set (a * n + b) true) := by
  funext i
  show (if i = a * 20 + b then AV.v (.bool true) else seF n sn i) = _
  split
  · rename_i e
    rw [e, seF_at _ ha hb hn, getD_set hl, if_pos rfl]
  · rename_i e
    unfold seF
    by_cases h : i / 20 < n ∧ i % 20 < n
    · rw [getD_set hl, if_neg]
      intro e2
      have h1 := Go.Pm.pair_div (n := n) (a := i / 20) h.2
      have h2 := Go.Pm.pair_mod (n := n) (a := i / 20) h.2
      rw [e2, Go.Pm.pair_div hb] at h1
      rw [e2, Go.Pm.pair_mod hb] at h2
      omega
    · have : (decide (i / 20 < n) && decide (i % 20 < n)) = false := by
        rw [← Bool.not_eq_true, Bool.and_eq_true, decide_eq_true_eq, decide_eq_true_eq]; exact h
      rw [this]; rfl
theorem seF_zero (n N i : Nat) (hi : i < 400) : zF (List.replicate 400 (.bool false)) i = seF n (List.replicate N false) i := by
  have h1 : (List.replicate N false).getD (i / 20 * n + i % 20) false = false := by rw [List.getD_eq_getElem?_getD, List.getElem?_replicate]; split <;> rfl
  have h2 : (List.replicate 400 (Value.bool false)).getD (i % (List.replicate 400 (Value.bool false)).length) undef = .bool false := by
    rw [List.length_replicate, List.getD_eq_getElem?_getD, List.getElem?_replicate, if_pos (by omega)]; rfl
  unfold seF zF
  rw [h1, h2, Bool.and_false]
@[go_sem] theorem scF_seF (p : Nat → Bool) (n : Nat) (sn : List Bool) : scF p (seF n sn) = seF n sn := rfl
theorem flP_one (n : Nat) (v : Nat) : flP n [(v : Int)] = [((v / n : Nat) : Int), ((v % n : Nat) : Int)] := rfl
theorem que_app {n T ga gb : Nat} {pre q : List Int} (h1 : T / n = ga) (h2 : T % n = gb) {g : Nat → AV} (hg0 : g 0 = .v (.int .i64 ga)) (hg1 : g 1 = .v (.int .i64 gb)) {m j : Nat} (hm : m = 2 * q.length) (hj : j < m + 2) :
    apF m (cM iv 0 (List.drop (2 * pre.length) (flP n (pre ++ q)))) g j = cM iv 0 (flP n (q ++ [(T : Int)])) j := by
  have l1 := flP_len n pre
  have l2 := flP_len n q
  show (if j < m then iv ((List.drop (2 * pre.length) (flP n (pre ++ q))).getD j 0) else g (j - m)) = iv ((flP n (q ++ [(T : Int)])).getD j 0)
  rw [flP_app, flP_app, flP_one, h1, h2, ← l1, List.drop_left]
  by_cases h : j < m
  · rw [if_pos h]
    congr 1
    rw [List.getD_eq_getElem?_getD, List.getD_eq_getElem?_getD, List.getElem?_append_left (by omega)]
  · rw [if_neg h]
    have : j = m ∨ j = m + 1 := by omega
    rcases this with e | e
    · rw [e, Nat.sub_self, hg0, List.getD_eq_getElem?_getD, List.getElem?_append_right (by omega), l2, hm, Nat.sub_self]; rfl
    · rw [e, show m + 1 - m = 1 by omega, hg1, List.getD_eq_getElem?_getD, List.getElem?_append_right (by omega), l2, hm, show 2 * q.length + 1 - 2 * q.length = 1 by omega]; rfl
set_option maxHeartbeats 4000000 in
theorem implPairs_ok (n : Nat) (gs : List (List Int)) (hok : isGens (n : Int) gs) : AC Try.prog 22 [.v (.int .i64 ((n : Nat))), intss gs] Hp.emp (fun _ => false) (retV (.v (.int .i64 ((cntK n gs (n * n) : Nat))))) := by
  have hd : decide (isGens (n : Int) gs) = true := decide_eq_true hok
  obtain ⟨h1, h2, h3⟩ := gens_pm hok
  rw [Int.toNat_natCast] at h1
  have h1 := Hold.mk h1
  have hgl := hok.2.1
  obtain ⟨N, eN⟩ : ∃ N, N = n * n := ⟨_, rfl⟩
  have hN : N ≤ 400 := by rw [eN]; exact Nat.mul_le_mul (show n ≤ 20 by omega) (show n ≤ 20 by omega)
  rw [← eN]
  refine ac_of_awp (N := ⟨_, fun _ => false, fun _ _ => rfl⟩) Try.func22 rfl (by kernel_rfl) Try.ntmps22 (by simp) ?_
  simp only [argsFr, List.zipIdx_cons, List.zipIdx_nil, go_sem]
  repeat' (first | refine awp_seqK fun K hK => ?_ | (refine awp_regionK 302231471932910580210675 rfl ?_; simp only [List.map_cons, List.map_nil]; simp (maxSteps := 1000000) (dsimp := false) (implicitDefEqProofs := false) (disch := omega) only [wrap64, go_sem, hd]) | (refine awp_regionQK 302231471932910580210675 (by kernel_rfl) (by kernel_rfl) (by kernel_rfl) ?_; simp only [List.map_cons, List.map_nil]; simp (maxSteps := 1000000) (dsimp := false) (implicitDefEqProofs := false) (disch := omega) only [wrap64, go_sem, hd]) | refine awp_block ?_ | (refine awp_skip ?_; simp only [go_sem, hd]) | (refine awp_exit ?_; simp only [go_sem, hd]) | (refine awp_ret ?_; try simp only [go_sem, hd]) | (refine awp_condP rfl ?_; try simp only [go_sem, hd]) | (refine BrP.mk (fun h => ?_) (fun h => ?_) <;> try simp (dsimp := false) (disch := omega) only [wrap64]) | (refine Br.mk (fun h => ?_) (fun h => ?_) <;> try simp (dsimp := false) (disch := omega) only [wrap64]) | refine Ob.mk (by first | omega | (intro _ _; rfl) | trivial | (intros; trivial) | assumption | (intro i hi; have h0 : i = 0 := (by omega); subst h0; first | rfl | trivial) | (intro i hi; have h0 : i = 0 ∨ i = 1 := (by omega); rcases h0 with rfl | rfl <;> rfl) | (intro i hi; have h0 : i = 0 ∨ i = 1 ∨ i = 2 := (by omega); rcases h0 with rfl | rfl | rfl <;> rfl)) ?_ | ((first | ((first | refine atF (f := 76) ?_ | refine atQ (f := 76) ?_); (first | (refine cV (hac := implIsGeneratorSet_ok (n : Int) gs) (hK := ?_)) | (refine cQV (hac := implIsGeneratorSet_ok (n : Int) gs) (hK := ?_))))); simp (maxSteps := 1000000) (dsimp := false) (implicitDefEqProofs := false) (disch := omega) only [wrap64, go_sem, hd]) | apply_assumption -exfalso -symm)
  all_goals (first | (show endQ _ _ _ _ _ _ _; (repeat (rename (∀ (A : Fr) (H : Hp), AWP _ _ _ _ A H → _) => hK; clear hK)); (repeat (rename (Fr → Hp → Prop) => K; clear K))) | (show Exists _; (repeat (rename (∀ (A : Fr) (H : Hp), AWP _ _ _ _ A H → _) => hK; clear hK)); (repeat (rename (Fr → Hp → Prop) => K; clear K))) | skip)
  refine awp_loop (ι := Nat × List Bool) (fun z => [(18, .v (.int .i64 ((z.1 : Nat)))), (17, .v (.int .i64 ((n : Nat)))), (6, .v (.int .i64 ((cntK n gs (z.1 * n) : Nat)))), (5, .ref 5 0), (0, .v (.int .i64 ((n : Nat)))), (1, .list false 1 (gs).length (cM ints [] (gs)))]) (fun z => Hp.emp.upd 5 (.cells 400 (seF n z.2))) (fun z => z.1 ≤ n ∧ Hold (Sn N z.2 fun y => ∃ u, u < z.1 * n ∧ u / n ≠ u % n ∧ Rch (gens2 n gs) u y)) (fun z => n - z.1) (0, List.replicate N false) ?_ ?_ ?_
  · refine ⟨Nat.zero_le _, ⟨⟨by rw [List.length_replicate], fun y hy => ?_⟩⟩⟩
    have : (List.replicate N false).getD y false = false := by rw [List.getD_eq_getElem?_getD, List.getElem?_replicate]; split <;> rfl
    rw [this]
    exact ⟨(fun h => by cases h), fun ⟨u, hu, _⟩ => by dsimp only at hu; omega⟩
  · exact Sub.toFF (fun _ => False) (Fr.fit_cons rfl (.refl _) (Fr.fit_cons rfl (.refl _) (Fr.fit_cons rfl (Fits.ofEq (by simp [cntK])) (Fr.fit_cons rfl (.refl _) (Fr.fit_cons rfl (.refl _) (Fr.fit_cons rfl (.refl _) (Fr.fit_nil _))))))) (leF_upd rfl (bfE rfl (fun i hi => seF_zero n N i hi)) leF_emp id)
  rintro ⟨x, sn0⟩ ⟨hx, hs0⟩
  dsimp only at hx hs0 ⊢
  repeat' (first | (show False; omega) | refine awp_seqK fun K hK => ?_ | (refine awp_regionK 302231471932910580210675 rfl ?_; simp only [List.map_cons, List.map_nil]; simp (maxSteps := 1000000) (dsimp := false) (implicitDefEqProofs := false) (disch := omega) only [wrap64, go_sem]) | (refine awp_regionQK 302231471932910580210675 (by kernel_rfl) (by kernel_rfl) (by kernel_rfl) ?_; simp only [List.map_cons, List.map_nil]; simp (maxSteps := 1000000) (dsimp := false) (implicitDefEqProofs := false) (disch := omega) only [wrap64, go_sem]) | refine awp_block ?_ | (refine awp_skip ?_; simp only [go_sem]) | (refine awp_exit ?_; simp only [go_sem]) | (refine awp_ret ?_; try simp only [go_sem]) | (refine awp_condP rfl ?_; try simp only [go_sem]) | (refine BrP.mk (fun h => ?_) (fun h => ?_) <;> try simp (dsimp := false) (disch := omega) only [wrap64]) | (refine Br.mk (fun h => ?_) (fun h => ?_) <;> try simp (dsimp := false) (disch := omega) only [wrap64]) | refine Ob.mk (by first | omega | (intro _ _; rfl) | trivial | (intros; trivial) | assumption | (intro i hi; have h0 : i = 0 := (by omega); subst h0; first | rfl | trivial) | (intro i hi; have h0 : i = 0 ∨ i = 1 := (by omega); rcases h0 with rfl | rfl <;> rfl) | (intro i hi; have h0 : i = 0 ∨ i = 1 ∨ i = 2 := (by omega); rcases h0 with rfl | rfl | rfl <;> rfl)) ?_ | apply_assumption -exfalso -symm)
  all_goals (first | (show endQ _ _ _ _ _ _ _; (repeat (rename (∀ (A : Fr) (H : Hp), AWP _ _ _ _ A H → _) => hK; clear hK)); (repeat (rename (Fr → Hp → Prop) => K; clear K))) | (show Exists _; (repeat (rename (∀ (A : Fr) (H : Hp), AWP _ _ _ _ A H → _) => hK; clear hK)); (repeat (rename (Fr → Hp → Prop) => K; clear K))) | skip)
  · have hxn : x < n := by omega
    refine awp_loop (ι := Nat × List Bool) (fun z => [(22, .v (.int .i64 ((z.1 : Nat)))), (21, .v (.int .i64 ((n : Nat)))), (7, .v (.int .i64 ((x : Nat)))), (18, .v (.int .i64 ((x : Nat)))), (17, .v (.int .i64 ((n : Nat)))), (6, .v (.int .i64 ((cntK n gs (x * n + z.1) : Nat)))), (5, .ref 5 0), (0, .v (.int .i64 ((n : Nat)))), (1, .list false 1 (gs).length (cM ints [] (gs)))]) (fun z => Hp.emp.upd 5 (.cells 400 (seF n z.2))) (fun z => z.1 ≤ n ∧ Hold (Sn N z.2 fun y => ∃ u, u < x * n + z.1 ∧ u / n ≠ u % n ∧ Rch (gens2 n gs) u y)) (fun z => n - z.1) (0, sn0) ⟨Nat.zero_le _, hs0⟩ (Sub.toL (by simp only [go_sem] <;> first | trivial | (simp only [Option.some.injEq, AV.v.injEq, AV.own.injEq, AV.list.injEq, Value.int.injEq, Value.bool.injEq, true_and, and_true]; first | omega | (simp; done)) | (simp; done) | (simp; omega)) (Hp.le_refl _)) ?_
    clear hs0 sn0
    rintro ⟨y, sn⟩ ⟨hy, hs⟩
    dsimp only at hy hs ⊢
    have hsl := hs.h.1
    obtain ⟨c, ec⟩ : ∃ c, c = x * n + y := ⟨_, rfl⟩
    rw [← ec] at hs ⊢
    have hcn := Go.Pm.cntK_le n gs c
    have hcs := Hold.mk (Go.Pm.cntK_succ n gs c)
    have hcN : y < n → c < N := fun h => by rw [ec, eN]; exact Go.Pm.pair_lt hxn h
    have hcd : y < n → c / n = x := fun h => by rw [ec]; exact Go.Pm.pair_div h
    have hcm : y < n → c % n = y := fun h => by rw [ec]; exact Go.Pm.pair_mod h
    have hcd := Hold.mk hcd
    have hcm := Hold.mk hcm
    have hse : y < n → seF n sn (x * 20 + y) = .v (.bool (sn.getD c false)) := fun h => by rw [seF_at sn hxn h (by omega), ← ec]
    have hss : y < n → setF (seF n sn) (x * 20 + y) (.v (.bool true)) = seF n (sn.set c true) := fun h => by rw [seF_set hxn h (by omega) (by rw [hsl, ← ec]; exact hcN h), ← ec]
    repeat' (first | (show False; omega) | refine awp_seqK fun K hK => ?_ | (refine awp_regionK 302231471932910580210675 rfl ?_; simp only [List.map_cons, List.map_nil]; simp (maxSteps := 1000000) (dsimp := false) (implicitDefEqProofs := false) (disch := omega) only [wrap64, go_sem, scF_seF, hse, hss, Nat.mul_one, Int.toNat_natCast]) | (refine awp_regionQK 302231471932910580210675 (by kernel_rfl) (by kernel_rfl) (by kernel_rfl) ?_; simp only [List.map_cons, List.map_nil]; simp (maxSteps := 1000000) (dsimp := false) (implicitDefEqProofs := false) (disch := omega) only [wrap64, go_sem, scF_seF, hse, hss, Nat.mul_one, Int.toNat_natCast]) | refine awp_block ?_ | (refine awp_skip ?_; simp only [go_sem, scF_seF, hse, hss, Nat.mul_one, Int.toNat_natCast]) | (refine awp_exit ?_; simp only [go_sem, scF_seF, hse, hss, Nat.mul_one, Int.toNat_natCast]) | (refine awp_ret ?_; try simp only [go_sem, scF_seF, hse, hss, Nat.mul_one, Int.toNat_natCast]) | (refine awp_condP rfl ?_; try simp only [go_sem, scF_seF, hse, hss, Nat.mul_one, Int.toNat_natCast]) | (refine BrP.mk (fun h => ?_) (fun h => ?_) <;> try simp (dsimp := false) (disch := omega) only [wrap64]) | (refine Br.mk (fun h => ?_) (fun h => ?_) <;> try simp (dsimp := false) (disch := omega) only [wrap64]) | refine Ob.mk (by first | omega | (intro _ _; rfl) | trivial | (intros; trivial) | assumption | (intro i hi; have h0 : i = 0 := (by omega); subst h0; first | rfl | trivial) | (intro i hi; have h0 : i = 0 ∨ i = 1 := (by omega); rcases h0 with rfl | rfl <;> rfl) | (intro i hi; have h0 : i = 0 ∨ i = 1 ∨ i = 2 := (by omega); rcases h0 with rfl | rfl | rfl <;> rfl)) ?_ | apply_assumption -exfalso -symm)
    all_goals (first | (show endQ _ _ _ _ _ _ _; (repeat (rename (∀ (A : Fr) (H : Hp), AWP _ _ _ _ A H → _) => hK; clear hK)); (repeat (rename (Fr → Hp → Prop) => K; clear K))) | (show Exists _; (repeat (rename (∀ (A : Fr) (H : Hp), AWP _ _ _ _ A H → _) => hK; clear hK)); (repeat (rename (Fr → Hp → Prop) => K; clear K))) | skip)
    · have hdg : c / n = c % n := by rw [hcd.h (by omega), hcm.h (by omega)]; omega
      have e1 : cntK n gs (c + 1) = cntK n gs c := by rw [hcs.h, if_neg (fun h => h.1 hdg)]
      refine ⟨(y + 1, sn), ⟨by dsimp only; omega, ⟨hs.h.imp fun v hv => ⟨fun ⟨u, hu, hr⟩ => ⟨u, by omega, hr⟩, fun ⟨u, hu, hr⟩ => ?_⟩⟩⟩, by dsimp only; omega, ?_⟩
      · by_cases e : u = c
        · subst e; exact absurd hdg hr.1
        · exact ⟨u, by omega, hr⟩
      · dsimp only
        rw [show x * n + (y + 1) = c + 1 by omega, e1]
        exact Sub.toL (by simp only [go_sem] <;> first | trivial | (simp only [Option.some.injEq, AV.v.injEq, AV.own.injEq, AV.list.injEq, Value.int.injEq, Value.bool.injEq, true_and, and_true]; first | omega | (simp; done)) | (simp; done) | (simp; omega)) (Hp.le_refl _)
    · obtain ⟨u0, hu0, hd0, hr0⟩ := (hs.h.2 c (hcN (by omega))).1 (by assumption)
      have hlo : ¬ loR (Rch (gens2 n gs)) c = true := fun h => (Go.Pm.loR_iff _ _).1 h u0 hu0 hr0
      have e1 : cntK n gs (c + 1) = cntK n gs c := by rw [hcs.h, if_neg (fun h => hlo h.2)]
      refine ⟨(y + 1, sn), ⟨by dsimp only; omega, ⟨hs.h.imp fun v hv => ⟨fun ⟨u, hu, hr⟩ => ⟨u, by omega, hr⟩, fun ⟨u, hu, hr⟩ => ?_⟩⟩⟩, by dsimp only; omega, ?_⟩
      · by_cases e : u = c
        · subst e; exact ⟨u0, hu0, hd0, hr0.trans hr.2⟩
        · exact ⟨u, by omega, hr⟩
      · dsimp only
        rw [show x * n + (y + 1) = c + 1 by omega, e1]
        exact Sub.toL (by simp only [go_sem] <;> first | trivial | (simp only [Option.some.injEq, AV.v.injEq, AV.own.injEq, AV.list.injEq, Value.int.injEq, Value.bool.injEq, true_and, and_true]; first | omega | (simp; done)) | (simp; done) | (simp; omega)) (Hp.le_refl _)
    · have hcN := hcN (by omega)
      have hnd : c / n ≠ c % n := fun h => by rw [hcd.h (by omega), hcm.h (by omega)] at h; omega
      have hnu : ¬ ∃ u, u < c ∧ u / n ≠ u % n ∧ Rch (gens2 n gs) u c := fun h => absurd ((hs.h.2 c hcN).2 h) (by first | assumption | (rw [Bool.not_eq_true]; assumption))
      have hlo : loR (Rch (gens2 n gs)) c = true := (Go.Pm.loR_iff _ _).2 fun u hu hr => hnu ⟨u, hu, fun e => hnd ((Go.Pm.diag_iff h1.h (by omega) hr).1 e), hr⟩
      have e1 : cntK n gs (c + 1) = cntK n gs c + 1 := by rw [hcs.h, if_pos ⟨hnd, hlo⟩]
      have hG : Hold (∀ g ∈ gens2 n gs, Pm N g) := ⟨by rw [eN]; exact Go.Pm.gens2_pm h1.h⟩
      have hGl : (gens2 n gs).length = gs.length := by unfold gens2; rw [List.length_map]
      have hnu := Hold.mk hnu
      have hx2 := hcd.h (by omega)
      have hy2 := hcm.h (by omega)
      refine awp_loop (ι := Nat × List Bool × List Int) (fun z => [(9, .own 44 (2 * z.2.2.length) 2 ((runO (gens2 n gs) c z.1).length - z.1)), (22, .v (.int .i64 ((y : Nat)))), (21, .v (.int .i64 ((n : Nat)))), (7, .v (.int .i64 ((x : Nat)))), (18, .v (.int .i64 ((x : Nat)))), (17, .v (.int .i64 ((n : Nat)))), (6, .v (.int .i64 (((cntK n gs c : Nat) : Int) + 1))), (5, .ref 5 0), (0, .v (.int .i64 ((n : Nat)))), (1, .list false 1 (gs).length (cM ints [] (gs)))]) (fun z => (Hp.emp.upd 5 (.cells 400 (seF n z.2.1))).upd 44 (.cells (2 * (z.2.2.length + ((runO (gens2 n gs) c z.1).length - z.1))) (cM iv 0 (flP n (z.2.2 ++ (runO (gens2 n gs) c z.1).drop z.1))))) (fun z => Hold ((∀ j, j < z.1 → j < (runO (gens2 n gs) c j).length) ∧ Sn N z.2.1 fun y => (∃ u, u < c ∧ u / n ≠ u % n ∧ Rch (gens2 n gs) u y) ∨ (y : Int) ∈ runO (gens2 n gs) c z.1)) (fun z => N - z.1) (0, sn.set c true, []) ⟨⟨fun j hj => absurd hj (Nat.not_lt_zero _), (hs.h.set hcN).imp fun y hy => ⟨fun h => h.elim .inl fun h => .inr (by rw [h]; simp [runO]), fun h => h.elim .inl fun h => .inr (by simp [runO] at h; omega)⟩⟩⟩ ?_ ?_
      · refine Sub.toFF (fun _ => False) (Fr.fit_cons rfl (.refl _) (Fr.fit_cons rfl (.refl _) (Fr.fit_cons rfl (.refl _) (Fr.fit_cons rfl (.refl _) (Fr.fit_cons rfl (.refl _) (Fr.fit_cons rfl (.refl _) (Fr.fit_cons rfl (.refl _) (Fr.fit_cons rfl (.refl _) (Fr.fit_cons rfl (.refl _) (Fr.fit_cons rfl (.refl _) (Fr.fit_nil _))))))))))) (leF_upd rfl (bfE rfl (fun i hi => ?_)) (leF_upd rfl (bfE rfl (fun i hi => rfl)) leF_emp id) id)
        have e0 : flP n ([] ++ (runO (gens2 n gs) c 0).drop 0) = [(x : Int), (y : Int)] := by show flP n [(c : Int)] = _; rw [flP_one, hx2, hy2]
        dsimp only
        rw [e0]
        have hi : i < 2 := hi
        rcases (show i = 0 ∨ i = 1 by omega) with rfl | rfl <;> rfl
      clear hs hsl hss hse
      rintro ⟨i, sm, pre⟩ hv
      dsimp only at hv ⊢
      have hsl := hv.h.2.1
      have hJ := Hold.mk (Go.Pm.runO_J hG.h hcN i hv.h.1)
      have hle := hJ.h.len
      have hle2 := hJ.h.le
      repeat' (first | (show False; omega) | refine awp_seqK fun K hK => ?_ | (refine awp_regionK 302231471932910580210675 rfl ?_; simp only [List.map_cons, List.map_nil]; simp (maxSteps := 1000000) (dsimp := false) (implicitDefEqProofs := false) (disch := omega) only [wrap64, go_sem]) | (refine awp_regionQK 302231471932910580210675 (by kernel_rfl) (by kernel_rfl) (by kernel_rfl) ?_; simp only [List.map_cons, List.map_nil]; simp (maxSteps := 1000000) (dsimp := false) (implicitDefEqProofs := false) (disch := omega) only [wrap64, go_sem]) | refine awp_block ?_ | (refine awp_skip ?_; simp only [go_sem]) | (refine awp_exit ?_; simp only [go_sem]) | (refine awp_ret ?_; try simp only [go_sem]) | (refine awp_condP rfl ?_; try simp only [go_sem]) | (refine BrP.mk (fun h => ?_) (fun h => ?_) <;> try simp (dsimp := false) (disch := omega) only [wrap64]) | (refine Br.mk (fun h => ?_) (fun h => ?_) <;> try simp (dsimp := false) (disch := omega) only [wrap64]) | refine Ob.mk (by first | omega | (intro _ _; rfl) | trivial | (intros; trivial) | assumption | (intro i hi; have h0 : i = 0 := (by omega); subst h0; first | rfl | trivial) | (intro i hi; have h0 : i = 0 ∨ i = 1 := (by omega); rcases h0 with rfl | rfl <;> rfl) | (intro i hi; have h0 : i = 0 ∨ i = 1 ∨ i = 2 := (by omega); rcases h0 with rfl | rfl | rfl <;> rfl)) ?_ | apply_assumption -exfalso -symm)
      all_goals (first | (show endQ _ _ _ _ _ _ _; (repeat (rename (∀ (A : Fr) (H : Hp), AWP _ _ _ _ A H → _) => hK; clear hK)); (repeat (rename (Fr → Hp → Prop) => K; clear K))) | (show Exists _; (repeat (rename (∀ (A : Fr) (H : Hp), AWP _ _ _ _ A H → _) => hK; clear hK)); (repeat (rename (Fr → Hp → Prop) => K; clear K))) | skip)
      · have hif : i < (runO (gens2 n gs) c i).length := by omega
        have hr := runO_succ (gens2 n gs) c i hif
        obtain ⟨v, ev, hvN, hvr⟩ := hJ.h.get hif
        obtain ⟨f, ef⟩ : ∃ f, f = runO (gens2 n gs) c i := ⟨_, rfl⟩
        rw [← ef] at hJ hle hle2 ev hr hif ⊢
        have hv2 := Hold.mk hv.h.2
        rw [← ef] at hv2
        have hv1 := Hold.mk hv.h.1
        clear hv
        have evn : (f.getD i 0).toNat = v := by omega
        rw [evn, hGl] at hr
        obtain ⟨hva, hvb, hvc⟩ := Go.Pm.pair_bd (n := n) (c := v) (by omega)
        obtain ⟨va, eva⟩ : ∃ a, a = v / n := ⟨_, rfl⟩
        obtain ⟨vb, evb⟩ : ∃ b, b = v % n := ⟨_, rfl⟩
        rw [← eva] at hva
        rw [← evb] at hvb
        refine awp_loop (ι := Nat × List Bool × List Int) (fun z => [(52, .v (.int .i64 ((z.1 : Nat)))), (51, .v (.int .i64 (gs.length))), (50, .list false 1 (gs).length (cM ints [] (gs))), (9, .own 44 (2 * z.2.2.length) 2 ((rowO (gens2 n gs) f v z.1).length - i)), (22, .v (.int .i64 ((y : Nat)))), (21, .v (.int .i64 ((n : Nat)))), (7, .v (.int .i64 ((x : Nat)))), (18, .v (.int .i64 ((x : Nat)))), (17, .v (.int .i64 ((n : Nat)))), (6, .v (.int .i64 (((cntK n gs c : Nat) : Int) + 1))), (5, .ref 5 0), (0, .v (.int .i64 ((n : Nat)))), (1, .list false 1 (gs).length (cM ints [] (gs)))]) (fun z => (Hp.emp.upd 5 (.cells 400 (seF n z.2.1))).upd 44 (.cells (2 * (z.2.2.length + ((rowO (gens2 n gs) f v z.1).length - i))) (cM iv 0 (flP n (z.2.2 ++ (rowO (gens2 n gs) f v z.1).drop i))))) (fun z => z.1 ≤ gs.length ∧ Hold (Sn N z.2.1 fun u' => (∃ u, u < c ∧ u / n ≠ u % n ∧ Rch (gens2 n gs) u u') ∨ (u' : Int) ∈ rowO (gens2 n gs) f v z.1)) (fun z => gs.length - z.1) (0, sm, pre) ⟨Nat.zero_le _, ⟨hv2.h⟩⟩ (Sub.toL (by simp only [go_sem] <;> first | trivial | (simp only [Option.some.injEq, AV.v.injEq, AV.own.injEq, AV.list.injEq, Value.int.injEq, Value.bool.injEq, true_and, and_true]; first | omega | (simp [rowO]; done)) | (simp [rowO]; done) | (simp [rowO]; omega)) (by (repeat' (first | exact Hp.le_emp _ | exact Hp.le_refl _ | refine Hp.le_upd ?_ ?_)); all_goals (first | rfl | (simp only [go_sem]; first | rfl | (refine cellsE ?_ ?_ <;> (simp [rowO])) | (simp [rowO]))))) ?_
        clear hv2 hsl pre
        rintro ⟨k, sk, pre⟩ ⟨hk, hv⟩
        dsimp only at hk hv ⊢
        have hsl := hv.h.1
        have hJk := Hold.mk ((hJ.h.rows hG.h hcN hif) k (by omega))
        rw [evn] at hJk
        have hlk := hJk.h.len
        have hl0 := Go.Pm.rowO_len (gs := gens2 n gs) (f := f) (y := v) k
        have hgi : (rowO (gens2 n gs) f v k).getD i 0 = (v : Int) := by rw [Go.Pm.rowO_get k hif]; exact ev
        have hdl : ((rowO (gens2 n gs) f v k).drop i).length = (rowO (gens2 n gs) f v k).length - i := by rw [List.length_drop]
        have hqq : (pre ++ (rowO (gens2 n gs) f v k).drop i).getD pre.length 0 = (v : Int) := by
          rw [List.getD_eq_getElem?_getD, List.getElem?_append_right (Nat.le_refl _), Nat.sub_self, List.getElem?_drop, Nat.add_zero, ← List.getD_eq_getElem?_getD]; exact hgi
        have hpl : pre.length < (pre ++ (rowO (gens2 n gs) f v k).drop i).length := by rw [List.length_append, hdl]; omega
        obtain ⟨hq0, hq1⟩ := flP_get n (pre ++ (rowO (gens2 n gs) f v k).drop i) pre.length hpl
        rw [hqq, Int.toNat_natCast, ← eva] at hq0
        rw [hqq, Int.toNat_natCast, ← evb] at hq1
        have hpk : k < gs.length → Pm n (gs.getD k []) := fun h => h1.h _ (by rw [List.getD_eq_getElem?_getD, List.getElem?_eq_getElem h]; exact List.getElem_mem h)
        have hlen : k < gs.length → (gs.getD k []).length = n := fun h => (hpk h).1
        obtain ⟨ga, ega⟩ : ∃ a, a = img (gs.getD k []) va := ⟨_, rfl⟩
        obtain ⟨gb, egb⟩ : ∃ b, b = img (gs.getD k []) vb := ⟨_, rfl⟩
        obtain ⟨T, eT⟩ : ∃ T, T = ga * n + gb := ⟨_, rfl⟩
        have hga : k < gs.length → (gs.getD k []).getD va 0 = ((ga : Nat) : Int) := fun h => by rw [ega]; exact (hpk h).get_eq hva
        have hgb : k < gs.length → (gs.getD k []).getD vb 0 = ((gb : Nat) : Int) := fun h => by rw [egb]; exact (hpk h).get_eq hvb
        have hbd : ¬ k < gs.length ∨ (ga < n ∧ gb < n ∧ T < N) := by
          by_cases h : k < gs.length
          · have b1 : ga < n := by rw [ega]; exact (hpk h).img_lt hva
            have b2 : gb < n := by rw [egb]; exact (hpk h).img_lt hvb
            exact .inr ⟨b1, b2, by rw [eT, eN]; exact Go.Pm.pair_lt b1 b2⟩
          · exact .inl h
        have hT : k < gs.length → ((gens2 n gs).getD k []).getD v 0 = ((T : Nat) : Int) := fun h => by
          have e2 : (gens2 n gs).getD k [] = pairP n (gs.getD k []) := by unfold gens2; simp [List.getD_eq_getElem?_getD, h]
          rw [e2, Go.Pm.pairP_get (by omega), ← eva, ← evb, eT, ega, egb]
        have hTr : k < gs.length → Rch (gens2 n gs) c T := fun h => by
          have hm : (gens2 n gs).getD k [] ∈ gens2 n gs := by
            have h' : k < (gens2 n gs).length := by omega
            rw [List.getD_eq_getElem?_getD, List.getElem?_eq_getElem h']; exact List.getElem_mem h'
          have := Rch.step hvr hm
          have e3 : img ((gens2 n gs).getD k []) v = T := by show (((gens2 n gs).getD k []).getD v 0).toNat = _; rw [hT h]; omega
          rwa [e3] at this
        have hse : k < gs.length → seF n sk (ga * 20 + gb) = .v (.bool (sk.getD T false)) := fun h => by rw [seF_at sk (by omega) (by omega) (by omega), ← eT]
        have hss : k < gs.length → setF (seF n sk) (ga * 20 + gb) (.v (.bool true)) = seF n (sk.set T true) := fun h => by rw [seF_set (by omega) (by omega) (by omega) (by rw [hsl, ← eT]; omega), ← eT]
        have hpk := Hold.mk hpk
        have hTd : k < gs.length → T / n = ga ∧ T % n = gb := fun h => by rw [eT, Go.Pm.pair_div (by omega), Go.Pm.pair_mod (by omega)]; exact ⟨rfl, rfl⟩
        have hTd := Hold.mk hTd
        have hT := Hold.mk hT
        have hTr := Hold.mk hTr
        have hsucc := rowO_succ' (gens2 n gs) f v k
        clear eva evb ega egb eT
        repeat' (first | (show False; omega) | (refine awp_regionEK (id := 22) 302231471932910580210675 5 (by kernel_rfl) (by kernel_rfl) (by kernel_rfl) ?_; simp only [List.map_cons, List.map_nil, opsE, List.take_succ_cons, List.take_zero, List.drop_succ_cons, List.drop_zero]; simp (maxSteps := 1000000) (dsimp := false) (implicitDefEqProofs := false) (disch := omega) only [wrap64, go_sem, List.getElem?_cons_zero, List.getElem?_cons_succ, tn0, tn1, Nat.zero_mul, Nat.add_zero, hq0, hq1, hlen, hga, hgb, scF_seF, hse, hss, Nat.mul_one, Int.toNat_natCast]) | (refine awp_regionFK (id := 20) 302231471932910580210675 16 [12] [[],[],[],[],[],[],[],[],[],[],[],[],[],[],[],[12]] (by kernel_rfl) (by kernel_rfl) (by kernel_rfl) (by simp only [go_sem, List.contains_cons, List.contains_nil, Nat.reduceBEq, Bool.or_self, Bool.false_eq_true, if_false]) (by simp only [go_sem, List.contains_cons, List.contains_nil, Nat.reduceBEq, Bool.or_self, Bool.false_eq_true, if_false]) (by simp only [noneAll, go_sem, Nat.reduceEqDiff, if_false, and_self]) ?_; simp only [List.map_cons, List.map_nil, List.take_succ_cons, List.take_zero, List.drop_succ_cons, List.drop_zero]; simp (maxSteps := 1000000) (dsimp := false) (implicitDefEqProofs := false) (disch := omega) only [wrap64, go_sem, List.getElem?_cons_zero, List.getElem?_cons_succ, tn0, tn1, Nat.zero_mul, Nat.add_zero, hq0, hq1, hlen, hga, hgb, scF_seF, hse, hss, Nat.mul_one, Int.toNat_natCast]) | refine awp_seqK fun K hK => ?_ | (refine awp_regionK 302231471932910580210675 rfl ?_; simp only [List.map_cons, List.map_nil]; simp (maxSteps := 1000000) (dsimp := false) (implicitDefEqProofs := false) (disch := omega) only [wrap64, go_sem, List.getElem?_cons_zero, List.getElem?_cons_succ, tn0, tn1, Nat.zero_mul, Nat.add_zero, hq0, hq1, hlen, hga, hgb, scF_seF, hse, hss, Nat.mul_one, Int.toNat_natCast]) | (refine awp_regionQK 302231471932910580210675 (by kernel_rfl) (by kernel_rfl) (by kernel_rfl) ?_; simp only [List.map_cons, List.map_nil]; simp (maxSteps := 1000000) (dsimp := false) (implicitDefEqProofs := false) (disch := omega) only [wrap64, go_sem, List.getElem?_cons_zero, List.getElem?_cons_succ, tn0, tn1, Nat.zero_mul, Nat.add_zero, hq0, hq1, hlen, hga, hgb, scF_seF, hse, hss, Nat.mul_one, Int.toNat_natCast]) | refine awp_block ?_ | (refine awp_skip ?_; simp only [go_sem, List.getElem?_cons_zero, List.getElem?_cons_succ, tn0, tn1, Nat.zero_mul, Nat.add_zero, hq0, hq1, hlen, hga, hgb, scF_seF, hse, hss, Nat.mul_one, Int.toNat_natCast]) | (refine awp_exit ?_; simp only [go_sem, List.getElem?_cons_zero, List.getElem?_cons_succ, tn0, tn1, Nat.zero_mul, Nat.add_zero, hq0, hq1, hlen, hga, hgb, scF_seF, hse, hss, Nat.mul_one, Int.toNat_natCast]) | (refine awp_ret ?_; try simp only [go_sem, List.getElem?_cons_zero, List.getElem?_cons_succ, tn0, tn1, Nat.zero_mul, Nat.add_zero, hq0, hq1, hlen, hga, hgb, scF_seF, hse, hss, Nat.mul_one, Int.toNat_natCast]) | (refine awp_condP rfl ?_; try simp only [go_sem, List.getElem?_cons_zero, List.getElem?_cons_succ, tn0, tn1, Nat.zero_mul, Nat.add_zero, hq0, hq1, hlen, hga, hgb, scF_seF, hse, hss, Nat.mul_one, Int.toNat_natCast]) | (refine BrP.mk (fun h => ?_) (fun h => ?_) <;> try simp (dsimp := false) (disch := omega) only [wrap64]) | (refine Br.mk (fun h => ?_) (fun h => ?_) <;> try simp (dsimp := false) (disch := omega) only [wrap64]) | refine Ob.mk (by first | omega | (intro _ _; rfl) | trivial | (intros; trivial) | assumption | (intro i hi; have h0 : i = 0 := (by omega); subst h0; first | rfl | trivial) | (intro i hi; have h0 : i = 0 ∨ i = 1 := (by omega); rcases h0 with rfl | rfl <;> rfl) | (intro i hi; have h0 : i = 0 ∨ i = 1 ∨ i = 2 := (by omega); rcases h0 with rfl | rfl | rfl <;> rfl)) ?_ | apply_assumption -exfalso -symm)
        all_goals (first | (show endQ _ _ _ _ _ _ _; (repeat (rename (∀ (A : Fr) (H : Hp), AWP _ _ _ _ A H → _) => hK; clear hK)); (repeat (rename (Fr → Hp → Prop) => K; clear K))) | (show Exists _; (repeat (rename (∀ (A : Fr) (H : Hp), AWP _ _ _ _ A H → _) => hK; clear hK)); (repeat (rename (Fr → Hp → Prop) => K; clear K))) | skip)
        · have hkl : k < gs.length := by omega
          have hmem : ((T : Nat) : Int) ∈ rowO (gens2 n gs) f v k := by
            rcases (hv.h.2 T (by omega)).1 (by assumption) with ⟨u, hu, hdd, hru⟩ | h
            · exact absurd ⟨u, hu, hdd, hru.trans ((hTr.h hkl).symm hG.h hcN)⟩ hnu.h
            · exact h
          rw [hT.h hkl, if_pos hmem] at hsucc
          refine ⟨(k + 1, sk, pre), ⟨by dsimp only; omega, ?_⟩, by dsimp only; omega, ?_⟩
          · dsimp only; rw [hsucc]; exact hv
          · dsimp only; rw [hsucc]; exact Sub.toL (by simp only [go_sem] <;> first | trivial | (simp only [Option.some.injEq, AV.v.injEq, AV.own.injEq, AV.list.injEq, Value.int.injEq, Value.bool.injEq, true_and, and_true]; first | omega | (simp; done)) | (simp; done) | (simp; omega)) (by (repeat' (first | exact Hp.le_emp _ | exact Hp.le_refl _ | refine Hp.le_upd ?_ ?_)); all_goals (first | rfl | (simp only [go_sem]; first | rfl | (refine cellsE ?_ ?_ <;> (simp)) | (simp))))
        · have hkl : k < gs.length := by omega
          have hs1 : ¬ sk.getD T false = true := by first | assumption | (rw [Bool.not_eq_true]; assumption)
          have hmem : ¬ ((T : Nat) : Int) ∈ rowO (gens2 n gs) f v k := fun h => hs1 ((hv.h.2 T (by omega)).2 (.inr h))
          rw [hT.h hkl, if_neg hmem] at hsucc
          have l1 : (rowO (gens2 n gs) f v (k + 1)).length - i = (rowO (gens2 n gs) f v k).length - i + 1 := by rw [hsucc, List.length_append, List.length_singleton]; omega
          have l2 : (rowO (gens2 n gs) f v (k + 1)).drop i = (rowO (gens2 n gs) f v k).drop i ++ [((T : Nat) : Int)] := by rw [hsucc, List.drop_append_of_le_length (by omega)]
          refine ⟨(k + 1, sk.set T true, []), ⟨by dsimp only; omega, ⟨(hv.h.set (by omega : T < N)).imp fun z hz' => ?_⟩⟩, by dsimp only; omega, ?_⟩
          · dsimp only
            rw [hsucc, List.mem_append, List.mem_singleton]
            exact ⟨fun h => h.elim (fun h => h.elim .inl fun h => .inr (.inl h)) fun h => .inr (.inr (by omega)), fun h => h.elim (fun h => .inl (.inl h)) fun h => h.elim (fun h => .inl (.inr h)) fun h => .inr (by omega)⟩
          · dsimp only
            rw [l1, l2, List.nil_append]
            refine Sub.toFF (fun _ => False) (Fr.fit_cons rfl (.refl _) (Fr.fit_cons rfl (.refl _) (Fr.fit_cons rfl (.refl _) (Fr.fit_cons rfl (.refl _) (Fr.fit_cons rfl (.refl _) (Fr.fit_cons rfl (.refl _) (Fr.fit_cons rfl (.refl _) (Fr.fit_cons rfl (.refl _) (Fr.fit_cons rfl (.refl _) (Fr.fit_cons rfl (.refl _) (Fr.fit_cons rfl (.refl _) (Fr.fit_cons rfl (.refl _) (Fr.fit_cons rfl (.refl _) (Fr.fit_nil _)))))))))))))) (leF_upd rfl (bfE ?_ (fun j hj => ?_)) (leF_upd rfl (bfE rfl (fun i hi => rfl)) leF_emp id) id)
            · simp only [List.length_nil]; omega
            · refine que_app (hTd.h hkl).1 (hTd.h hkl).2 ?_ ?_ ?_ ?_
              · rfl
              · rfl
              · rw [hdl]; omega
              · omega
        · have ek : k = gs.length := by omega
          subst ek
          have e2 : (rowO (gens2 n gs) f v gs.length).drop i = (v : Int) :: (rowO (gens2 n gs) f v gs.length).drop (i + 1) := by
            have hil : i < (rowO (gens2 n gs) f v gs.length).length := by omega
            rw [← hgi, show (rowO (gens2 n gs) f v gs.length).getD i 0 = (rowO (gens2 n gs) f v gs.length)[i] from (by rw [List.getD_eq_getElem?_getD, List.getElem?_eq_getElem hil]; rfl), List.getElem_cons_drop]
          have e3 : (pre ++ [(v : Int)]).length = pre.length + 1 := by rw [List.length_append, List.length_singleton]
          have e4 : pre ++ [(v : Int)] ++ (rowO (gens2 n gs) f v gs.length).drop (i + 1) = pre ++ (rowO (gens2 n gs) f v gs.length).drop i := by rw [e2, List.append_assoc]; rfl
          have e5 : pre.length + 1 + ((rowO (gens2 n gs) f v gs.length).length - (i + 1)) = pre.length + ((rowO (gens2 n gs) f v gs.length).length - i) := by omega
          have e6 : (rowO (gens2 n gs) f v gs.length).length - (i + 1) = (rowO (gens2 n gs) f v gs.length).length - i - 1 := by omega
          have e7 : 2 * (pre.length + 1) = 2 * pre.length + 1 * 2 := by omega
          refine ⟨(i + 1, sk, pre ++ [(v : Int)]), ⟨fun j hj => ?_, ?_⟩, by dsimp only; omega, ?_⟩
          · dsimp only at hj
            by_cases e : j = i
            · subst e; rw [← ef]; exact hif
            · exact hv1.h j (by omega)
          · dsimp only; rw [hr]; exact hv.h
          · dsimp only; rw [hr, e3, e4, e5, e6, e7]; exact Sub.toL (by simp only [go_sem] <;> first | trivial | (simp only [Option.some.injEq, AV.v.injEq, AV.own.injEq, AV.list.injEq, Value.int.injEq, Value.bool.injEq, true_and, and_true]; first | omega | (simp; done)) | (simp; done) | (simp; omega)) (by (repeat' (first | exact Hp.le_emp _ | exact Hp.le_refl _ | refine Hp.le_upd ?_ ?_)); all_goals (first | rfl | (simp only [go_sem]; first | rfl | (refine cellsE ?_ ?_ <;> (simp)) | (simp))))
      · have hend := Go.Pm.runO_end hG.h hcN hv.h.1 (by omega : ¬ i < (runO (gens2 n gs) c i).length)
        refine ⟨(y + 1, sm), ⟨by dsimp only; omega, ⟨hv.h.2.imp fun z hz => ?_⟩⟩, by dsimp only; omega, ?_⟩
        · rw [hend.2, Go.Pm.mem_clsF]
          exact ⟨fun h => h.elim (fun ⟨u, hu, hr⟩ => ⟨u, by omega, hr⟩) fun ⟨z', e, hz', hr⟩ => ⟨c, by omega, hnd, by have : z' = z := by omega
                                                                                                                      rw [← this]; exact hr⟩, fun ⟨u, hu, hr⟩ => by
            by_cases e : u = c
            · subst e; exact .inr ⟨z, rfl, hz, hr.2⟩
            · exact .inl ⟨u, by omega, hr⟩⟩
        · dsimp only
          rw [show x * n + (y + 1) = c + 1 by omega, e1]
          exact Sub.toL (by simp only [go_sem] <;> first | trivial | (simp only [Option.some.injEq, AV.v.injEq, AV.own.injEq, AV.list.injEq, Value.int.injEq, Value.bool.injEq, true_and, and_true]; first | omega | (simp; done)) | (simp; done) | (simp; omega)) (by (repeat' (first | exact Hp.le_emp _ | exact Hp.le_refl _ | refine Hp.le_upd ?_ ?_)); all_goals (first | rfl | (simp only [go_sem]; first | rfl | (refine cellsE ?_ ?_ <;> (simp)) | (simp))))
    · have ey : y = n := by omega
      refine ⟨(x + 1, sn), ⟨by dsimp only; omega, ⟨hs.h.imp fun v hv => ?_⟩⟩, by dsimp only; omega, ?_⟩
      · rw [ec, ey, Nat.succ_mul]
      · dsimp only
        rw [ec, ey, Nat.succ_mul]
        exact Sub.toL (by simp only [go_sem] <;> first | trivial | (simp only [Option.some.injEq, AV.v.injEq, AV.own.injEq, AV.list.injEq, Value.int.injEq, Value.bool.injEq, true_and, and_true]; first | omega | (simp; done)) | (simp; done) | (simp; omega)) (Hp.le_refl _)
  · have e : x = n := by omega
    subst e
    rw [eN]
    exact end_retV rfl rfl
theorem implPairOrbitCount_ok (n : Int) (gs : List (List Int)) : AC Try.prog 22 [.v (.int .i64 (n)), intss gs] Hp.emp (fun _ => false) (retV (.v (.int .i64 (pocP n gs)))) := by
  by_cases h : isGens n gs
  · obtain ⟨_, _, _, _, e⟩ := gens_P h
    have := implPairs_ok n.toNat gs (by rw [← e]; exact h)
    rw [← e] at this
    unfold pocP; rw [if_pos h]; exact this
  · have hd : decide (isGens n gs) = false := decide_eq_false h
    rw [show pocP n gs = 0 from if_neg h]
    refine ac_of_awp (N := ⟨_, fun _ => false, fun _ _ => rfl⟩) Try.func22 rfl (by kernel_rfl) Try.ntmps22 (by simp) ?_
    simp only [argsFr, List.zipIdx_cons, List.zipIdx_nil, go_sem]
    repeat' (first | refine awp_seqK fun K hK => ?_ | (refine awp_regionK 302231471932910580210675 rfl ?_; simp only [List.map_cons, List.map_nil]; simp (maxSteps := 1000000) (dsimp := false) (implicitDefEqProofs := false) (disch := omega) only [wrap64, go_sem, hd]) | (refine awp_regionQK 302231471932910580210675 (by kernel_rfl) (by kernel_rfl) (by kernel_rfl) ?_; simp only [List.map_cons, List.map_nil]; simp (maxSteps := 1000000) (dsimp := false) (implicitDefEqProofs := false) (disch := omega) only [wrap64, go_sem, hd]) | refine awp_block ?_ | (refine awp_skip ?_; simp only [go_sem, hd]) | (refine awp_exit ?_; simp only [go_sem, hd]) | (refine awp_ret ?_; try simp only [go_sem, hd]) | (refine awp_condP rfl ?_; try simp only [go_sem, hd]) | (refine BrP.mk (fun h => ?_) (fun h => ?_) <;> try simp (dsimp := false) (disch := omega) only [wrap64]) | (refine Br.mk (fun h => ?_) (fun h => ?_) <;> try simp (dsimp := false) (disch := omega) only [wrap64]) | refine Ob.mk (by first | omega | (intro _ _; rfl) | trivial | (intros; trivial) | assumption | (intro i hi; have h0 : i = 0 := (by omega); subst h0; first | rfl | trivial) | (intro i hi; have h0 : i = 0 ∨ i = 1 := (by omega); rcases h0 with rfl | rfl <;> rfl) | (intro i hi; have h0 : i = 0 ∨ i = 1 ∨ i = 2 := (by omega); rcases h0 with rfl | rfl | rfl <;> rfl)) ?_ | ((first | ((first | refine atF (f := 76) ?_ | refine atQ (f := 76) ?_); (first | (refine cV (hac := implIsGeneratorSet_ok n gs) (hK := ?_)) | (refine cQV (hac := implIsGeneratorSet_ok n gs) (hK := ?_))))); simp (maxSteps := 1000000) (dsimp := false) (implicitDefEqProofs := false) (disch := omega) only [wrap64, go_sem, hd]) | apply_assumption -exfalso -symm)
    all_goals (first | (show endQ _ _ _ _ _ _ _; (repeat (rename (∀ (A : Fr) (H : Hp), AWP _ _ _ _ A H → _) => hK; clear hK)); (repeat (rename (Fr → Hp → Prop) => K; clear K))) | (show Exists _; (repeat (rename (∀ (A : Fr) (H : Hp), AWP _ _ _ _ A H → _) => hK; clear hK)); (repeat (rename (Fr → Hp → Prop) => K; clear K))) | skip)
    exact end_retV rfl rfl
theorem drawPairOrbitCount_ok (xs : List Int) (hx : ∀ j, 0 ≤ xs.getD j 0 ∧ xs.getD j 0 ≤ 255) (hl : xs.length ≤ 4096) : AC Try.prog 21 [bts xs] Hp.emp (fun _ => false) (postX fun r => ∃ q : Int × List (List Int), grQ q.1 q.2 ∧ r = .tup 2 (vecF [.v (.int .i64 (q.1)), intss q.2])) := by
  refine ac_of_awp (N := ⟨_, fun _ => false, fun _ _ => rfl⟩) Try.func21 rfl (by kernel_rfl) Try.ntmps21 (by simp) ?_
  simp only [argsFr, List.zipIdx_cons, List.zipIdx_nil, go_sem]
  repeat' (first | ((first | refine atF (f := 58) ?_ | refine atQ (f := 58) ?_); (refine callRoll (newSource_ok xs hx hl) rfl (fun d0 => ?_)) <;> simp (maxSteps := 1000000) (dsimp := false) (implicitDefEqProofs := false) (disch := omega) only [wrap64, go_sem]) | ((first | refine atF (f := 82) ?_ | refine atQ (f := 82) ?_); (refine callD (by rfl) (drawGroup_ok _) (by rintro _ ⟨v, _, rfl⟩ p; simp only [scrub_tup, scF_vecF, List.map_cons, List.map_nil]; rfl) (fun r d1 hq => ?_); obtain ⟨⟨n, gs⟩, hg, rfl⟩ := hq) <;> simp (maxSteps := 1000000) (dsimp := false) (implicitDefEqProofs := false) (disch := omega) only [wrap64, go_sem]) | refine awp_seqK fun K hK => ?_ | (refine awp_regionK 29 rfl ?_; simp only [List.map_cons, List.map_nil]; simp (maxSteps := 1000000) (dsimp := false) (implicitDefEqProofs := false) (disch := omega) only [wrap64, go_sem]) | (refine awp_regionQK 29 (by kernel_rfl) (by kernel_rfl) (by kernel_rfl) ?_; simp only [List.map_cons, List.map_nil]; simp (maxSteps := 1000000) (dsimp := false) (implicitDefEqProofs := false) (disch := omega) only [wrap64, go_sem]) | refine awp_block ?_ | (refine awp_skip ?_; simp only [go_sem]) | (refine awp_exit ?_; simp only [go_sem]) | (refine awp_ret ?_; try simp only [go_sem]) | (refine awp_condP rfl ?_; try simp only [go_sem]) | (refine BrP.mk (fun h => ?_) (fun h => ?_) <;> try simp (dsimp := false) (disch := omega) only [wrap64]) | (refine Br.mk (fun h => ?_) (fun h => ?_) <;> try simp (dsimp := false) (disch := omega) only [wrap64]) | refine Ob.mk (by first | omega | (intro _ _; rfl) | trivial | (intros; trivial) | assumption | (intro i hi; have h0 : i = 0 := (by omega); subst h0; first | rfl | trivial) | (intro i hi; have h0 : i = 0 ∨ i = 1 := (by omega); rcases h0 with rfl | rfl <;> rfl) | (intro i hi; have h0 : i = 0 ∨ i = 1 ∨ i = 2 := (by omega); rcases h0 with rfl | rfl | rfl <;> rfl)) ?_ | apply_assumption -exfalso -symm)
  all_goals (first | (show endQ _ _ _ _ _ _ _; (repeat (rename (∀ (A : Fr) (H : Hp), AWP _ _ _ _ A H → _) => hK; clear hK)); (repeat (rename (Fr → Hp → Prop) => K; clear K))) | (show Exists _; (repeat (rename (∀ (A : Fr) (H : Hp), AWP _ _ _ _ A H → _) => hK; clear hK)); (repeat (rename (Fr → Hp → Prop) => K; clear K))) | skip)
  exact end_X2 rfl (by decide) rfl rfl (.refl _) (.refl _) ⟨(n, gs), hg, rfl⟩
end Go.Proofs.Ytngpacdhpblpbaa
end
