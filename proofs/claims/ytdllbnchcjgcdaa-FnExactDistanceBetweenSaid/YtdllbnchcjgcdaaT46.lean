import Derived.Test.YtdllbnchcjgcdaaT45
/- What the program asks of an exploration: depths, places of states. -/
namespace Go.Proofs.Ytdllbnchcjgcdaa
open Go.Av
set_option linter.unusedSimpArgs false
set_option linter.unusedVariables false
attribute [local irreducible] AWP CallG Ob Br BrP Go.Av.Sub endQ AOps OpV AC thenA blkA opsVC opVC withA withArgs opsQ opQ CallQ withA2 withArgs2
open Go.Pm (Pm comp invp idn img Gen Bf srch sorts srtN Srt slot sidx insAt)
theorem exH_pM {p : Pz} {B : Bf} : ∀ h, exH p B h ≠ none → pM h = true := fun h hh => by
  unfold exH Hp.upd at hh
  split at hh
  · rename_i e; subst e; rfl
  · split at hh
    · rename_i e; subst e; rfl
    · exact absurd rfl hh
theorem exH_ge {p : Pz} {B : Bf} : ∀ h, exH p B h ≠ none → 1000000 ≤ h := fun h hh => by
  unfold exH Hp.upd at hh
  split at hh
  · omega
  · split at hh
    · omega
    · exact absurd rfl hh
theorem exH_scrub (p : Pz) (B : Bf) : (exH p B).scrub (fun h => !liveB (exH p B) h) = exH p B := by
  have h1 : liveB (exH p B) 1000000 = true := rfl
  have h2 : liveB (exH p B) 1000003 = true := rfl
  obtain ⟨q, hq⟩ : ∃ q : Nat → Bool, q = fun h => !liveB (exH p B) h := ⟨_, rfl⟩
  have e2 : q 1000003 = false := by rw [hq]; simp [h2]
  rw [← hq]
  unfold exH exR
  simp only [Hp.scrub_upd, Hp.scrub_emp, Blk.scrub_cells, Blk.scrub_mp, mS_scrub_iv, scF_vecF, List.map_cons, List.map_nil]
  simp only [AV.scrub, e2, Bool.false_eq_true, if_false]
theorem tup2_scrub (q : Nat → Bool) (a b : Value) : (AV.tup 2 (vecF [.v a, .v b])).scrub q = .tup 2 (vecF [.v a, .v b]) := by
  simp only [scrub_tup, scF_vecF, List.map_cons, List.map_nil, scrub_v]
section
variable {P : Program} {N : Cx} {A : Fr} {H : Hp}
/-- A call of explore. -/
theorem callE {f : FuncId} {args : List AV} {p : Pz} {pn : Nat → Bool} {K : AV → Fr → Hp → Prop} (hac : AC P f args Hp.emp pn (postE p)) (hpn : N.pn = fun _ => false)
    (h1 : (XS p).isSome = true → K (.tup 2 (vecF [.ref 1000000 0, .v (.bool (true))])) (A.scrub pM) (((H.scrub pM).upd 1000000 (.cells 9 (vecF [.v (.int .i64 (p.n)), .v (.string (p.s)), .list false 1 (p.m).length (cM ints [] (p.m)), .list false 1 ((XA p).st).length (cM ints [] ((XA p).st)), .list false 1 ((XA p).dp).length (cM iv 0 ((XA p).dp)), .map 1000003, .dead, .dead, .list false 1 ((XA p).nx).length (cM ints [] ((XA p).nx))]))).upd 1000003 (.mp (mS iv (kvs (XA p).st)))))
    (h2 : (XS p).isSome = false → K (.tup 2 (vecF [.v (.pointer none), .v (.bool (false))])) (A.scrub pM) (H.scrub pM)) : CallG P N f args A H K := by
  refine callHp hac hpn fun r H' hp => ?_
  rcases hp with ⟨hs, rfl, rfl⟩ | ⟨hs, rfl, rfl⟩
  · refine ⟨exH_ge, ?_, exH_scrub p _, ?_⟩
    · have e : liveB (exH p (XA p)) 1000000 = true := rfl
      rw [scrub_tup, scF_vecF]
      simp only [List.map_cons, List.map_nil, AV.scrub, e, Bool.not_true, Bool.false_eq_true, if_false]
    · have e : (exH p (XA p)).add (H.scrub pM) = ((H.scrub pM).upd 1000000 (.cells 9 (exR p (XA p)))).upd 1000003 (.mp (mS iv (kvs (XA p).st))) := by unfold exH; rw [upd_add, upd_add, emp_add]
      rw [e]; exact h1 hs
  · exact ⟨fun h hh => absurd rfl hh, tup2_scrub _ _ _, rfl, h2 hs⟩
end
theorem diameter_ok (p : Pz) (B : Bf) (h0 : 0 < B.st.length) (h1 : B.st.length ≤ 3000) (h2 : B.dp.length = B.st.length) : AC Try.prog 100 [.ref 1000000 0] (exH p B) pM (fun r H => r = .v (.int .i64 (B.dp.getD (B.st.length - 1) 0)) ∧ H = exH p B) := by
  have e1 : ((B.dp.length : Nat) : Int) - 1 = ((B.st.length - 1 : Nat) : Int) := by omega
  refine ac_of_awp (N := ⟨_, pM, fun h hh => pM_low (Nat.lt_of_lt_of_le hh (by decide))⟩) Try.func100 rfl (by kernel_rfl) Try.ntmps100 (by simp) ?_
  simp only [argsFr, List.zipIdx_cons, List.zipIdx_nil, go_sem]
  unfold exH exR
  repeat' (first | refine awp_seqK fun K hK => ?_ | (refine awp_regionK 5 rfl ?_; simp only [List.map_cons, List.map_nil]; simp (maxSteps := 1000000) (dsimp := false) (implicitDefEqProofs := false) (disch := omega) only [wrap64, go_sem, e1]) | (refine awp_regionQK 5 (by kernel_rfl) (by kernel_rfl) (by kernel_rfl) ?_; simp only [List.map_cons, List.map_nil]; simp (maxSteps := 1000000) (dsimp := false) (implicitDefEqProofs := false) (disch := omega) only [wrap64, go_sem, e1]) | refine awp_block ?_ | (refine awp_skip ?_; simp only [go_sem, e1]) | (refine awp_exit ?_; simp only [go_sem, e1]) | (refine awp_ret ?_; try simp only [go_sem, e1]) | (refine awp_condP rfl ?_; try simp only [go_sem, e1]) | (refine BrP.mk (fun h => ?_) (fun h => ?_) <;> try simp (dsimp := false) (disch := omega) only [wrap64]) | (refine Br.mk (fun h => ?_) (fun h => ?_) <;> try simp (dsimp := false) (disch := omega) only [wrap64]) | refine Ob.mk (by first | omega | (intro _ _; rfl) | trivial | (intros; trivial) | assumption | (intro i hi; have h0 : i = 0 := (by omega); subst h0; first | rfl | trivial) | (intro i hi; have h0 : i = 0 ∨ i = 1 := (by omega); rcases h0 with rfl | rfl <;> rfl) | (intro i hi; have h0 : i = 0 ∨ i = 1 ∨ i = 2 := (by omega); rcases h0 with rfl | rfl | rfl <;> rfl)) ?_ | apply_assumption -exfalso -symm)
  all_goals (first | (show endQ _ _ _ _ _ _ _; (repeat (rename (∀ (A : Fr) (H : Hp), AWP _ _ _ _ A H → _) => hK; clear hK)); (repeat (rename (Fr → Hp → Prop) => K; clear K))) | (show Exists _; (repeat (rename (∀ (A : Fr) (H : Hp), AWP _ _ _ _ A H → _) => hK; clear hK)); (repeat (rename (Fr → Hp → Prop) => K; clear K))) | skip)
  · exact end_post rfl rfl (Hp.le_refl _) ⟨rfl, rfl⟩
theorem fits_p9 {H : Hp} {D : Nat → Prop} {p : Pz} {g : Nat → AV} (h0 : g 0 = .v (.int .i64 (p.n))) (h1 : g 1 = .v (.string (p.s))) (h2 : g 2 = .list false 1 (p.m).length (cM ints [] (p.m))) : Fits H D (.agg 3 g) (pz p) := by
  refine .agg fun i hi => ?_
  match i, hi with
  | 0, _ => rw [h0]; exact .refl _
  | 1, _ => rw [h1]; exact .refl _
  | 2, _ => rw [h2]; exact .refl _
theorem lk_none {y : List Int} {xs : List (List Int)} (hy : isB y) (h : ∀ s ∈ xs, isB s) (hm : y ∉ xs) : (lkO (keyB y) (kvs xs)).getD 0 = 0 := by
  unfold kvs; rw [lk_kvsN hy xs 0 h, if_neg hm]; rfl
/-- Where a state stands, or nought. -/
def fdI (p : Pz) (B : Bf) (s : List Int) : Int := if isSt p s ∧ s ∈ B.st then B.st.idxOf s else 0
theorem find_ok (p : Pz) (B : Bf) (s : List Int) (hp : isPz p) (hB : ∀ s ∈ B.st, isB s) : AC Try.prog 104 [.ref 1000000 0, ints s] (exH p B) pM (fun r H => r = .tup 2 (vecF [.v (.int .i64 (fdI p B s)), .v (.bool (decide (isSt p s ∧ s ∈ B.st)))]) ∧ H = exH p B) := by
  have hy : ((s.length : Int) = p.n ∧ isPerm s) → s.length ≤ 20 ∧ isB s := fun h => by
    have h1 := (isPerm_pm s).1 h.2
    exact ⟨h1.1.2, isB_of h1.1.2 (fun j hj => h1.2.2.1 j hj)⟩
  have hk1 := fun h => lk_has (xs := B.st) (hy h).2 hB
  refine ac_of_awp (N := ⟨_, pM, fun h hh => pM_low (Nat.lt_of_lt_of_le hh (by decide))⟩) Try.func104 rfl (by kernel_rfl) Try.ntmps104 (by simp) ?_
  simp only [argsFr, List.zipIdx_cons, List.zipIdx_nil, go_sem]
  unfold exH exR
  repeat' (first | refine awp_seqK fun K hK => ?_ | (refine awp_regionK 16627 rfl ?_; simp only [List.map_cons, List.map_nil]; simp (maxSteps := 1000000) (dsimp := false) (implicitDefEqProofs := false) (disch := omega) only [wrap64, go_sem, hk1]) | (refine awp_regionQK 16627 (by kernel_rfl) (by kernel_rfl) (by kernel_rfl) ?_; simp only [List.map_cons, List.map_nil]; simp (maxSteps := 1000000) (dsimp := false) (implicitDefEqProofs := false) (disch := omega) only [wrap64, go_sem, hk1]) | refine awp_block ?_ | (refine awp_skip ?_; simp only [go_sem, hk1]) | (refine awp_exit ?_; simp only [go_sem, hk1]) | (refine awp_ret ?_; try simp only [go_sem, hk1]) | (refine awp_condP rfl ?_; try simp only [go_sem, hk1]) | (refine BrP.mk (fun h => ?_) (fun h => ?_) <;> try simp (dsimp := false) (disch := omega) only [wrap64]) | (refine Br.mk (fun h => ?_) (fun h => ?_) <;> try simp (dsimp := false) (disch := omega) only [wrap64]) | refine Ob.mk (by first | omega | (intro _ _; rfl) | trivial | (intros; trivial) | assumption | (intro i hi; have h0 : i = 0 := (by omega); subst h0; first | rfl | trivial) | (intro i hi; have h0 : i = 0 ∨ i = 1 := (by omega); rcases h0 with rfl | rfl <;> rfl) | (intro i hi; have h0 : i = 0 ∨ i = 1 ∨ i = 2 := (by omega); rcases h0 with rfl | rfl | rfl <;> rfl)) ?_ | ((first | ((first | refine atF (f := 142) ?_ | refine atQ (f := 142) ?_); refine cV (hfit := .cons (fits_p9 rfl rfl rfl) (.cons (.refl _) .nil)) (hac := puzIsState_ok p s) (hK := ?_)) | ((first | refine atF (f := 147) ?_ | refine atQ (f := 147) ?_); (first | (refine cV (hac := stateKey_ok s (by have := hy (by assumption); omega) (hy (by assumption)).2) (hK := ?_)) | (refine cQV (hac := stateKey_ok s (by have := hy (by assumption); omega) (hy (by assumption)).2) (hK := ?_))))); simp (maxSteps := 1000000) (dsimp := false) (implicitDefEqProofs := false) (disch := omega) only [wrap64, go_sem, hk1]) | apply_assumption -exfalso -symm)
  all_goals (first | (show endQ _ _ _ _ _ _ _; (repeat (rename (∀ (A : Fr) (H : Hp), AWP _ _ _ _ A H → _) => hK; clear hK)); (repeat (rename (Fr → Hp → Prop) => K; clear K))) | (show Exists _; (repeat (rename (∀ (A : Fr) (H : Hp), AWP _ _ _ _ A H → _) => hK; clear hK)); (repeat (rename (Fr → Hp → Prop) => K; clear K))) | skip)
  · refine end_tup2 rfl (by decide) (Sub.toL (by simp only [go_sem] <;> first | trivial | (simp only [Option.some.injEq, AV.v.injEq, AV.own.injEq, AV.list.injEq, Value.int.injEq, Value.bool.injEq, true_and, and_true]; first | omega | (simp; done)) | (simp; done) | (simp; omega)) (Hp.le_refl _)) ⟨?_, rfl⟩
    have e1 : (isSt p s ∧ s ∈ B.st) = (s ∈ B.st) := propext ⟨fun h => h.2, fun h => ⟨⟨hp, by assumption⟩, h⟩⟩
    rw [show decide (isSt p s ∧ s ∈ B.st) = decide (s ∈ B.st) from by simp only [e1]]
    unfold fdI
    simp only [e1]
    split
    · rw [lk_get (hy (by assumption)).2 hB (by assumption)]
    · rw [lk_none (hy (by assumption)).2 hB (by assumption)]
  · refine end_tup2 rfl (by decide) (Sub.toL (by simp only [go_sem] <;> first | trivial | (simp only [Option.some.injEq, AV.v.injEq, AV.own.injEq, AV.list.injEq, Value.int.injEq, Value.bool.injEq, true_and, and_true]; first | omega | (simp; done)) | (simp; done) | (simp; omega)) (Hp.le_refl _)) ⟨?_, rfl⟩
    have e1 : ¬ (isSt p s ∧ s ∈ B.st) := fun h => absurd h.1.2 (by assumption)
    unfold fdI
    rw [if_neg e1, decide_eq_false e1]
/-- What comes of exploring, with the place of a state. -/
def postS (p : Pz) (s : List Int) (r : AV) (H : Hp) : Prop := ((XS p).isSome = true ∧ r = .tup 3 (vecF [.ref 1000000 0, .v (.int .i64 (fdI p (XA p) s)), .v (.bool (decide (isSt p s ∧ s ∈ (XA p).st)))]) ∧ H = exH p (XA p)) ∨ ((XS p).isSome = false ∧ r = .tup 3 (vecF [.v (.pointer none), .v (.int .i64 (0)), .v (.bool (false))]) ∧ H = Hp.emp)
theorem XA_isB {p : Pz} (h : (XS p).isSome = true) : ∀ s ∈ (XA p).st, isB s := fun s hs => by
  obtain ⟨h1, h2, _⟩ := XA_whole h
  exact isB_of h1.n20 (h2.rng s hs)
theorem exploreState_ok (p : Pz) (s : List Int) (hs0 : p.s.size ≤ 140737488355328) : AC Try.prog 106 [pz p, ints s] Hp.emp (fun _ => false) (postS p s) := by
  have hf := fun h : (XS p).isSome = true => find_ok p (XA p) s (XA_whole h).1 (XA_isB h)
  refine ac_of_awp (N := ⟨_, fun _ => false, fun _ _ => rfl⟩) Try.func106 rfl (by kernel_rfl) Try.ntmps106 (by simp) ?_
  simp only [argsFr, List.zipIdx_cons, List.zipIdx_nil, go_sem]
  repeat' (first | ((first | refine atF (f := 99) ?_ | refine atQ (f := 99) ?_); refine callE (explore_ok p hs0) rfl (fun hX => ?_) (fun hX => ?_) <;> simp (maxSteps := 1000000) (dsimp := false) (implicitDefEqProofs := false) (disch := omega) only [wrap64, go_sem, pM_low]) | refine awp_seqK fun K hK => ?_ | (refine awp_regionK 66551 rfl ?_; simp only [List.map_cons, List.map_nil]; simp (maxSteps := 1000000) (dsimp := false) (implicitDefEqProofs := false) (disch := omega) only [wrap64, go_sem, pM_low]) | (refine awp_regionQK 66551 (by kernel_rfl) (by kernel_rfl) (by kernel_rfl) ?_; simp only [List.map_cons, List.map_nil]; simp (maxSteps := 1000000) (dsimp := false) (implicitDefEqProofs := false) (disch := omega) only [wrap64, go_sem, pM_low]) | refine awp_block ?_ | (refine awp_skip ?_; simp only [go_sem, pM_low]) | (refine awp_exit ?_; simp only [go_sem, pM_low]) | (refine awp_ret ?_; try simp only [go_sem, pM_low]) | (refine awp_condP rfl ?_; try simp only [go_sem, pM_low]) | (refine BrP.mk (fun h => ?_) (fun h => ?_) <;> try simp (dsimp := false) (disch := omega) only [wrap64]) | (refine Br.mk (fun h => ?_) (fun h => ?_) <;> try simp (dsimp := false) (disch := omega) only [wrap64]) | refine Ob.mk (by first | omega | (intro _ _; rfl) | trivial | (intros; trivial) | assumption | (intro i hi; have h0 : i = 0 := (by omega); subst h0; first | rfl | trivial) | (intro i hi; have h0 : i = 0 ∨ i = 1 := (by omega); rcases h0 with rfl | rfl <;> rfl) | (intro i hi; have h0 : i = 0 ∨ i = 1 ∨ i = 2 := (by omega); rcases h0 with rfl | rfl | rfl <;> rfl)) ?_ | ((first | ((first | refine atF (f := 104) ?_ | refine atQ (f := 104) ?_); refine callPn (Hin := exH p (XA p)) (by unfold exH exR; repeat' (first | exact Hp.le_emp _ | refine Hp.le_upd rfl ?_)) (hf (by assumption)) exH_pM (tup2_scrub _ _ _) (exH_scrub _ _) ?_)); simp (maxSteps := 1000000) (dsimp := false) (implicitDefEqProofs := false) (disch := omega) only [wrap64, go_sem, pM_low]) | apply_assumption -exfalso -symm)
  all_goals (first | (show endQ _ _ _ _ _ _ _; (repeat (rename (∀ (A : Fr) (H : Hp), AWP _ _ _ _ A H → _) => hK; clear hK)); (repeat (rename (Fr → Hp → Prop) => K; clear K))) | (show Exists _; (repeat (rename (∀ (A : Fr) (H : Hp), AWP _ _ _ _ A H → _) => hK; clear hK)); (repeat (rename (Fr → Hp → Prop) => K; clear K))) | skip)
  · refine end_tup3 rfl (by decide) (by decide) (by decide) (Sub.toL (by simp only [go_sem] <;> first | trivial | (simp only [Option.some.injEq, AV.v.injEq, AV.own.injEq, AV.list.injEq, Value.int.injEq, Value.bool.injEq, true_and, and_true]; first | omega | (simp; done)) | (simp; done) | (simp; omega)) ?_) (.inl ⟨by assumption, rfl, rfl⟩)
    unfold exH exR; repeat' (first | exact Hp.le_emp _ | refine Hp.le_upd rfl ?_)
  · exact end_tup3 rfl (by decide) (by decide) (by decide) (Sub.toL (by simp only [go_sem] <;> first | trivial | (simp only [Option.some.injEq, AV.v.injEq, AV.own.injEq, AV.list.injEq, Value.int.injEq, Value.bool.injEq, true_and, and_true]; first | omega | (simp; done)) | (simp; done) | (simp; omega)) (Hp.le_emp _)) (.inr ⟨by assumption, rfl, rfl⟩)
section
variable {P : Program} {N : Cx} {A : Fr} {H : Hp}
/-- A call of exploreState. -/
theorem callS3 {f : FuncId} {args : List AV} {p : Pz} {s : List Int} {pn : Nat → Bool} {K : AV → Fr → Hp → Prop} (hac : AC P f args Hp.emp pn (postS p s)) (hpn : N.pn = fun _ => false)
    (h1 : (XS p).isSome = true → K (.tup 3 (vecF [.ref 1000000 0, .v (.int .i64 (fdI p (XA p) s)), .v (.bool (decide (isSt p s ∧ s ∈ (XA p).st)))])) (A.scrub pM) (((H.scrub pM).upd 1000000 (.cells 9 (vecF [.v (.int .i64 (p.n)), .v (.string (p.s)), .list false 1 (p.m).length (cM ints [] (p.m)), .list false 1 ((XA p).st).length (cM ints [] ((XA p).st)), .list false 1 ((XA p).dp).length (cM iv 0 ((XA p).dp)), .map 1000003, .dead, .dead, .list false 1 ((XA p).nx).length (cM ints [] ((XA p).nx))]))).upd 1000003 (.mp (mS iv (kvs (XA p).st)))))
    (h2 : (XS p).isSome = false → K (.tup 3 (vecF [.v (.pointer none), .v (.int .i64 (0)), .v (.bool (false))])) (A.scrub pM) (H.scrub pM)) : CallG P N f args A H K := by
  refine callHp hac hpn fun r H' hp => ?_
  rcases hp with ⟨hs, rfl, rfl⟩ | ⟨hs, rfl, rfl⟩
  · refine ⟨exH_ge, ?_, exH_scrub p _, ?_⟩
    · have e : liveB (exH p (XA p)) 1000000 = true := rfl
      rw [scrub_tup, scF_vecF]
      simp only [List.map_cons, List.map_nil, AV.scrub, e, Bool.not_true, Bool.false_eq_true, if_false]
    · have e : (exH p (XA p)).add (H.scrub pM) = ((H.scrub pM).upd 1000000 (.cells 9 (exR p (XA p)))).upd 1000003 (.mp (mS iv (kvs (XA p).st))) := by unfold exH; rw [upd_add, upd_add, emp_add]
      rw [e]; exact h1 hs
  · exact ⟨fun h hh => absurd rfl hh, by simp only [scrub_tup, scF_vecF, List.map_cons, List.map_nil, scrub_v], rfl, h2 hs⟩
end
theorem implDiameter_ok (p : Pz) (hs0 : p.s.size ≤ 140737488355328) : AC Try.prog 45 [pz p] Hp.emp (fun _ => false) (retV (.v (.int .i64 (diamP p)))) := by
  obtain ⟨hb1, hb2⟩ := XA_basic p
  have hd := fun h : (XS p).isSome = true => diameter_ok p (XA p) (XA_whole h).2.1.pos hb1 hb2
  have y : (XS p).isSome = true → diamP p = (XA p).dp.getD ((XA p).st.length - 1) 0 := fun h => if_pos h
  have n : (XS p).isSome = false → diamP p = -1 := fun h => if_neg (by rw [h]; simp)
  refine ac_of_awp (N := ⟨_, fun _ => false, fun _ _ => rfl⟩) Try.func45 rfl (by kernel_rfl) Try.ntmps45 (by simp) ?_
  simp only [argsFr, List.zipIdx_cons, List.zipIdx_nil, go_sem]
  repeat' (first | ((first | refine atF (f := 99) ?_ | refine atQ (f := 99) ?_); refine callE (explore_ok p hs0) rfl (fun hX => ?_) (fun hX => ?_) <;> simp (maxSteps := 1000000) (dsimp := false) (implicitDefEqProofs := false) (disch := omega) only [wrap64, go_sem, pM_low]) | refine awp_seqK fun K hK => ?_ | (refine awp_regionK 2079 rfl ?_; simp only [List.map_cons, List.map_nil]; simp (maxSteps := 1000000) (dsimp := false) (implicitDefEqProofs := false) (disch := omega) only [wrap64, go_sem, pM_low]) | (refine awp_regionQK 2079 (by kernel_rfl) (by kernel_rfl) (by kernel_rfl) ?_; simp only [List.map_cons, List.map_nil]; simp (maxSteps := 1000000) (dsimp := false) (implicitDefEqProofs := false) (disch := omega) only [wrap64, go_sem, pM_low]) | refine awp_block ?_ | (refine awp_skip ?_; simp only [go_sem, pM_low]) | (refine awp_exit ?_; simp only [go_sem, pM_low]) | (refine awp_ret ?_; try simp only [go_sem, pM_low]) | (refine awp_condP rfl ?_; try simp only [go_sem, pM_low]) | (refine BrP.mk (fun h => ?_) (fun h => ?_) <;> try simp (dsimp := false) (disch := omega) only [wrap64]) | (refine Br.mk (fun h => ?_) (fun h => ?_) <;> try simp (dsimp := false) (disch := omega) only [wrap64]) | refine Ob.mk (by first | omega | (intro _ _; rfl) | trivial | (intros; trivial) | assumption | (intro i hi; have h0 : i = 0 := (by omega); subst h0; first | rfl | trivial) | (intro i hi; have h0 : i = 0 ∨ i = 1 := (by omega); rcases h0 with rfl | rfl <;> rfl) | (intro i hi; have h0 : i = 0 ∨ i = 1 ∨ i = 2 := (by omega); rcases h0 with rfl | rfl | rfl <;> rfl)) ?_ | ((first | ((first | refine atF (f := 100) ?_ | refine atQ (f := 100) ?_); refine callPn (Hin := exH p (XA p)) (by unfold exH exR; repeat' (first | exact Hp.le_emp _ | refine Hp.le_upd rfl ?_)) (hd (by assumption)) exH_pM rfl (exH_scrub _ _) ?_)); simp (maxSteps := 1000000) (dsimp := false) (implicitDefEqProofs := false) (disch := omega) only [wrap64, go_sem, pM_low]) | apply_assumption -exfalso -symm)
  all_goals (first | (show endQ _ _ _ _ _ _ _; (repeat (rename (∀ (A : Fr) (H : Hp), AWP _ _ _ _ A H → _) => hK; clear hK)); (repeat (rename (Fr → Hp → Prop) => K; clear K))) | (show Exists _; (repeat (rename (∀ (A : Fr) (H : Hp), AWP _ _ _ _ A H → _) => hK; clear hK)); (repeat (rename (Fr → Hp → Prop) => K; clear K))) | skip)
  · exact end_retN rfl rfl (y (by assumption)).symm
  · exact end_retN rfl rfl (n (by assumption)).symm
theorem implStateIndex_ok (p : Pz) (s : List Int) (hs0 : p.s.size ≤ 140737488355328) : AC Try.prog 49 [pz p, ints s] Hp.emp (fun _ => false) (retV (.v (.int .i64 (idxS p s)))) := by
  have hf := fun h : (XS p).isSome = true => find_ok p (XA p) s (XA_whole h).1 (XA_isB h)
  refine ac_of_awp (N := ⟨_, fun _ => false, fun _ _ => rfl⟩) Try.func49 rfl (by kernel_rfl) Try.ntmps49 (by simp) ?_
  simp only [argsFr, List.zipIdx_cons, List.zipIdx_nil, go_sem]
  repeat' (first | ((first | refine atF (f := 99) ?_ | refine atQ (f := 99) ?_); refine callE (explore_ok p hs0) rfl (fun hX => ?_) (fun hX => ?_) <;> simp (maxSteps := 1000000) (dsimp := false) (implicitDefEqProofs := false) (disch := omega) only [wrap64, go_sem, pM_low]) | refine awp_seqK fun K hK => ?_ | (refine awp_regionK 4210935 rfl ?_; simp only [List.map_cons, List.map_nil]; simp (maxSteps := 1000000) (dsimp := false) (implicitDefEqProofs := false) (disch := omega) only [wrap64, go_sem, pM_low]) | (refine awp_regionQK 4210935 (by kernel_rfl) (by kernel_rfl) (by kernel_rfl) ?_; simp only [List.map_cons, List.map_nil]; simp (maxSteps := 1000000) (dsimp := false) (implicitDefEqProofs := false) (disch := omega) only [wrap64, go_sem, pM_low]) | refine awp_block ?_ | (refine awp_skip ?_; simp only [go_sem, pM_low]) | (refine awp_exit ?_; simp only [go_sem, pM_low]) | (refine awp_ret ?_; try simp only [go_sem, pM_low]) | (refine awp_condP rfl ?_; try simp only [go_sem, pM_low]) | (refine BrP.mk (fun h => ?_) (fun h => ?_) <;> try simp (dsimp := false) (disch := omega) only [wrap64]) | (refine Br.mk (fun h => ?_) (fun h => ?_) <;> try simp (dsimp := false) (disch := omega) only [wrap64]) | refine Ob.mk (by first | omega | (intro _ _; rfl) | trivial | (intros; trivial) | assumption | (intro i hi; have h0 : i = 0 := (by omega); subst h0; first | rfl | trivial) | (intro i hi; have h0 : i = 0 ∨ i = 1 := (by omega); rcases h0 with rfl | rfl <;> rfl) | (intro i hi; have h0 : i = 0 ∨ i = 1 ∨ i = 2 := (by omega); rcases h0 with rfl | rfl | rfl <;> rfl)) ?_ | ((first | ((first | refine atF (f := 104) ?_ | refine atQ (f := 104) ?_); refine callPn (Hin := exH p (XA p)) (by unfold exH exR; repeat' (first | exact Hp.le_emp _ | refine Hp.le_upd rfl ?_)) (hf (by assumption)) exH_pM (tup2_scrub _ _ _) (exH_scrub _ _) ?_)); simp (maxSteps := 1000000) (dsimp := false) (implicitDefEqProofs := false) (disch := omega) only [wrap64, go_sem, pM_low]) | apply_assumption -exfalso -symm)
  all_goals (first | (show endQ _ _ _ _ _ _ _; (repeat (rename (∀ (A : Fr) (H : Hp), AWP _ _ _ _ A H → _) => hK; clear hK)); (repeat (rename (Fr → Hp → Prop) => K; clear K))) | (show Exists _; (repeat (rename (∀ (A : Fr) (H : Hp), AWP _ _ _ _ A H → _) => hK; clear hK)); (repeat (rename (Fr → Hp → Prop) => K; clear K))) | skip)
  · refine end_retN rfl rfl ?_
    obtain ⟨h1, h2⟩ := (by assumption : isSt p s ∧ s ∈ (XA p).st)
    unfold fdI idxS Go.Pm.sidx
    rw [if_pos ⟨h1, h2⟩, if_pos ⟨by assumption, h1⟩, if_pos h2]
  · refine end_retN rfl rfl ?_
    have h1 := (by assumption : ¬ (isSt p s ∧ s ∈ (XA p).st))
    unfold idxS Go.Pm.sidx
    by_cases e : isSt p s
    · rw [if_pos ⟨by assumption, e⟩, if_neg (fun h => h1 ⟨e, h⟩)]
    · rw [if_neg (fun h => e h.2)]
  · refine end_retN rfl rfl ?_
    have h1 := (by assumption : (XS p).isSome = false)
    unfold idxS
    rw [if_neg (fun h => by rw [h1] at h; simp at h)]
theorem implDistance_ok (p : Pz) (s : List Int) (hs0 : p.s.size ≤ 140737488355328) : AC Try.prog 51 [pz p, ints s] Hp.emp (fun _ => false) (retV (.v (.int .i64 (dstP p s)))) := by
  obtain ⟨hb1, hb2⟩ := XA_basic p
  have hlt : s ∈ (XA p).st → (XA p).st.idxOf s < (XA p).st.length := List.idxOf_lt_length_iff.2
  have hfb : (XS p).isSome = true → 0 ≤ fdI p (XA p) s ∧ fdI p (XA p) s < ((XA p).dp.length : Int) := fun h => by
    have := (XA_whole h).2.1.pos
    unfold fdI
    split
    · have := hlt (by rename_i h; exact h.2); omega
    · omega
  have hfd : isSt p s ∧ s ∈ (XA p).st → fdI p (XA p) s = (XA p).st.idxOf s := fun h => if_pos h
  refine ac_of_awp (N := ⟨_, fun _ => false, fun _ _ => rfl⟩) Try.func51 rfl (by kernel_rfl) Try.ntmps51 (by simp) ?_
  simp only [argsFr, List.zipIdx_cons, List.zipIdx_nil, go_sem]
  repeat' (first | (refine Ob.mk (by have := hfb (by assumption); omega) ?_) | ((first | refine atF (f := 106) ?_ | refine atQ (f := 106) ?_); refine callS3 (exploreState_ok p s hs0) rfl (fun hX => ?_) (fun hX => ?_) <;> simp (maxSteps := 1000000) (dsimp := false) (implicitDefEqProofs := false) (disch := omega) only [wrap64, go_sem, pM_low]) | refine awp_seqK fun K hK => ?_ | (refine awp_regionK 65783 rfl ?_; simp only [List.map_cons, List.map_nil]; simp (maxSteps := 1000000) (dsimp := false) (implicitDefEqProofs := false) (disch := omega) only [wrap64, go_sem, pM_low]) | (refine awp_regionQK 65783 (by kernel_rfl) (by kernel_rfl) (by kernel_rfl) ?_; simp only [List.map_cons, List.map_nil]; simp (maxSteps := 1000000) (dsimp := false) (implicitDefEqProofs := false) (disch := omega) only [wrap64, go_sem, pM_low]) | refine awp_block ?_ | (refine awp_skip ?_; simp only [go_sem, pM_low]) | (refine awp_exit ?_; simp only [go_sem, pM_low]) | (refine awp_ret ?_; try simp only [go_sem, pM_low]) | (refine awp_condP rfl ?_; try simp only [go_sem, pM_low]) | (refine BrP.mk (fun h => ?_) (fun h => ?_) <;> try simp (dsimp := false) (disch := omega) only [wrap64]) | (refine Br.mk (fun h => ?_) (fun h => ?_) <;> try simp (dsimp := false) (disch := omega) only [wrap64]) | refine Ob.mk (by first | omega | (intro _ _; rfl) | trivial | (intros; trivial) | assumption | (intro i hi; have h0 : i = 0 := (by omega); subst h0; first | rfl | trivial) | (intro i hi; have h0 : i = 0 ∨ i = 1 := (by omega); rcases h0 with rfl | rfl <;> rfl) | (intro i hi; have h0 : i = 0 ∨ i = 1 ∨ i = 2 := (by omega); rcases h0 with rfl | rfl | rfl <;> rfl)) ?_ | apply_assumption -exfalso -symm)
  all_goals (first | (show endQ _ _ _ _ _ _ _; (repeat (rename (∀ (A : Fr) (H : Hp), AWP _ _ _ _ A H → _) => hK; clear hK)); (repeat (rename (Fr → Hp → Prop) => K; clear K))) | (show Exists _; (repeat (rename (∀ (A : Fr) (H : Hp), AWP _ _ _ _ A H → _) => hK; clear hK)); (repeat (rename (Fr → Hp → Prop) => K; clear K))) | skip)
  · refine end_retN rfl rfl ?_
    have h1 := (by assumption : isSt p s ∧ s ∈ (XA p).st)
    rw [hfd h1]
    unfold dstP depD
    rw [if_pos ⟨by assumption, h1.1⟩, if_pos h1.2]; rfl
  · refine end_retN rfl rfl ?_
    have h1 := (by assumption : ¬ (isSt p s ∧ s ∈ (XA p).st))
    unfold dstP depD
    by_cases e : isSt p s
    · rw [if_pos ⟨by assumption, e⟩, if_neg (fun h => h1 ⟨e, h⟩)]
    · rw [if_neg (fun h => e h.2)]
  · refine end_retN rfl rfl ?_
    have h1 := (by assumption : (XS p).isSome = false)
    unfold dstP
    rw [if_neg (fun h => by rw [h1] at h; simp at h)]
end Go.Proofs.Ytdllbnchcjgcdaa
