import Derived.Test.YtdllbnchcjgcdaaT45
import Derived.Test.YtdllbnchcjgcdaaE8
import Derived.Test.YtdllbnchcjgcdaaE5
import Derived.Test.YtdllbnchcjgcdaaE2
import Derived.Test.YtdllbnchcjgcdaaE3
/- What the program asks of an exploration: depths, places of states. -/
section
namespace Go.Proofs.Ytdllbnchcjgcdaa
open Go.Av
set_option linter.unusedSimpArgs false
set_option linter.unusedVariables false
attribute [local irreducible] AWP CallG Ob Br BrP Go.Av.Sub endQ AOps OpV AC thenA blkA opsVC opVC withA withArgs opsQ opQ CallQ withA2 withArgs2
open Go.Pm (Pm comp invp idn img Gen Bf srch sorts srtN Srt slot sidx insAt)
theorem exH_pM {p : Pz} {B : Bf} : ∀ h, exH p B h ≠ none → pM h = true := fun h hh => by
  unfold exH Hp.upd at hh
  split at hh
  · rename_i e; subst e; rfl
  · split at hh
    · rename_i e; subst e; rfl
    · exact absurd rfl hh
theorem exH_ge {p : Pz} {B : Bf} : ∀ h, exH p B h ≠ none → 1000000 ≤ h := fun h hh => by
  unfold exH Hp.upd at hh
  split at hh
  · omega
  · split at hh
    · omega
    · exact absurd rfl hh
theorem exH_scrub (p : Pz) (B : Bf) : (exH p B).scrub (fun h => !liveB (exH p B) h) = exH p B := by
  have h1 : liveB (exH p B) 1000000 = true := rfl
  have h2 : liveB (exH p B) 1000003 = true := rfl
  obtain ⟨q, hq⟩ : ∃ q : Nat → Bool, q = fun h => !liveB (exH p B) h := ⟨_, rfl⟩
  have e2 : q 1000003 = false := by rw [hq]; simp [h2]
  rw [← hq]
  unfold exH exR
  simp only [Hp.scrub_upd, Hp.scrub_emp, Blk.scrub_cells, Blk.scrub_mp, mS_scrub_iv, scF_vecF, List.map_cons, List.map_nil]
  simp only [AV.scrub, e2, Bool.false_eq_true, if_false]
theorem tup2_scrub (q : Nat → Bool) (a b : Value) : (AV.tup 2 (vecF [.v a, .v b])).scrub q = .tup 2 (vecF [.v a, .v b]) := by
  simp only [scrub_tup, scF_vecF, List.map_cons, List.map_nil, scrub_v]
section
variable {P : Program} {N : Cx} {A : Fr} {H : Hp}
/-- A call of explore. -/
theorem callE {f : FuncId} {args : List AV} {p : Pz} {pn : Nat → Bool} {K : AV → Fr → Hp → Prop} (hac : AC P f args Hp.emp pn (postE p)) (hpn : N.pn = fun _ => false)
    (h1 : (XS p).isSome = true → K (.tup 2 (vecF [.ref 1000000 0, .v (.bool (true))])) (A.scrub pM) (((H.scrub pM).upd 1000000 (.cells 9 (vecF [.v (.int .i64 (p.n)), .v (.string (p.s)), .list false 1 (p.m).length (cM ints [] (p.m)), .list false 1 ((XA p).st).length (cM ints [] ((XA p).st)), .list false 1 ((XA p).dp).length (cM iv 0 ((XA p).dp)), .map 1000003, .dead, .dead, .list false 1 ((XA p).nx).length (cM ints [] ((XA p).nx))]))).upd 1000003 (.mp (mS iv (kvs (XA p).st)))))
    (h2 : (XS p).isSome = false → K (.tup 2 (vecF [.v (.pointer none), .v (.bool (false))])) (A.scrub pM) (H.scrub pM)) : CallG P N f args A H K := by
  refine callHp hac hpn fun r H' hp => ?_
  rcases hp with ⟨hs, rfl, rfl⟩ | ⟨hs, rfl, rfl⟩
  · refine ⟨exH_ge, ?_, exH_scrub p _, ?_⟩
    · have e : liveB (exH p (XA p)) 1000000 = true := rfl
      rw [scrub_tup, scF_vecF]
      simp only [List.map_cons, List.map_nil, AV.scrub, e, Bool.not_true, Bool.false_eq_true, if_false]
    · have e : (exH p (XA p)).add (H.scrub pM) = ((H.scrub pM).upd 1000000 (.cells 9 (exR p (XA p)))).upd 1000003 (.mp (mS iv (kvs (XA p).st))) := by unfold exH; rw [upd_add, upd_add, emp_add]
      rw [e]; exact h1 hs
  · exact ⟨fun h hh => absurd rfl hh, tup2_scrub _ _ _, rfl, h2 hs⟩
end
theorem fits_p9 {H : Hp} {D : Nat → Prop} {p : Pz} {g : Nat → AV} (h0 : g 0 = .v (.int .i64 (p.n))) (h1 : g 1 = .v (.string (p.s))) (h2 : g 2 = .list false 1 (p.m).length (cM ints [] (p.m))) : Fits H D (.agg 3 g) (pz p) := by
  refine .agg fun i hi => ?_
  match i, hi with
  | 0, _ => rw [h0]; exact .refl _
  | 1, _ => rw [h1]; exact .refl _
  | 2, _ => rw [h2]; exact .refl _
theorem lk_none {y : List Int} {xs : List (List Int)} (hy : isB y) (h : ∀ s ∈ xs, isB s) (hm : y ∉ xs) : (lkO (keyB y) (kvs xs)).getD 0 = 0 := by
  unfold kvs; rw [lk_kvsN hy xs 0 h, if_neg hm]; rfl
/-- Where a state stands, or nought. -/
def fdI (p : Pz) (B : Bf) (s : List Int) : Int := if isSt p s ∧ s ∈ B.st then B.st.idxOf s else 0
theorem find_ok (p : Pz) (B : Bf) (s : List Int) (hp : isPz p) (hB : ∀ s ∈ B.st, isB s) : AC Try.prog 104 [.ref 1000000 0, ints s] (exH p B) pM (fun r H => r = .tup 2 (vecF [.v (.int .i64 (fdI p B s)), .v (.bool (decide (isSt p s ∧ s ∈ B.st)))]) ∧ H = exH p B) := by
  have hy : ((s.length : Int) = p.n ∧ isPerm s) → s.length ≤ 20 ∧ isB s := fun h => by
    have h1 := (isPerm_pm s).1 h.2
    exact ⟨h1.1.2, isB_of h1.1.2 (fun j hj => h1.2.2.1 j hj)⟩
  have hk1 := fun h => lk_has (xs := B.st) (hy h).2 hB
  refine ac_of_awp (N := ⟨_, pM, fun h hh => pM_low (Nat.lt_of_lt_of_le hh (by decide))⟩) Try.func104 rfl (by kernel_rfl) Try.ntmps104 (by simp) ?_
  simp only [argsFr, List.zipIdx_cons, List.zipIdx_nil, go_sem]
  unfold exH exR
  repeat' (first | refine awp_seqK fun K hK => ?_ | (refine awp_regionK 16627 rfl ?_; simp only [List.map_cons, List.map_nil]; simp (maxSteps := 1000000) (dsimp := false) (implicitDefEqProofs := false) (disch := omega) only [wrap64, go_sem, hk1]) | (refine awp_regionQK 16627 (by kernel_rfl) (by kernel_rfl) (by kernel_rfl) ?_; simp only [List.map_cons, List.map_nil]; simp (maxSteps := 1000000) (dsimp := false) (implicitDefEqProofs := false) (disch := omega) only [wrap64, go_sem, hk1]) | refine awp_block ?_ | (refine awp_skip ?_; simp only [go_sem, hk1]) | (refine awp_exit ?_; simp only [go_sem, hk1]) | (refine awp_ret ?_; try simp only [go_sem, hk1]) | (refine awp_condP rfl ?_; try simp only [go_sem, hk1]) | (refine BrP.mk (fun h => ?_) (fun h => ?_) <;> try simp (dsimp := false) (disch := omega) only [wrap64]) | (refine Br.mk (fun h => ?_) (fun h => ?_) <;> try simp (dsimp := false) (disch := omega) only [wrap64]) | refine Ob.mk (by first | omega | (intro _ _; rfl) | trivial | (intros; trivial) | assumption | (intro i hi; have h0 : i = 0 := (by omega); subst h0; first | rfl | trivial) | (intro i hi; have h0 : i = 0 ∨ i = 1 := (by omega); rcases h0 with rfl | rfl <;> rfl) | (intro i hi; have h0 : i = 0 ∨ i = 1 ∨ i = 2 := (by omega); rcases h0 with rfl | rfl | rfl <;> rfl)) ?_ | ((first | ((first | refine atF (f := 142) ?_ | refine atQ (f := 142) ?_); refine cV (hfit := .cons (fits_p9 rfl rfl rfl) (.cons (.refl _) .nil)) (hac := puzIsState_ok p s) (hK := ?_)) | ((first | refine atF (f := 147) ?_ | refine atQ (f := 147) ?_); (first | (refine cV (hac := stateKey_ok s (by have := hy (by assumption); omega) (hy (by assumption)).2) (hK := ?_)) | (refine cQV (hac := stateKey_ok s (by have := hy (by assumption); omega) (hy (by assumption)).2) (hK := ?_))))); simp (maxSteps := 1000000) (dsimp := false) (implicitDefEqProofs := false) (disch := omega) only [wrap64, go_sem, hk1]) | apply_assumption -exfalso -symm)
  all_goals (first | (show endQ _ _ _ _ _ _ _; (repeat (rename (∀ (A : Fr) (H : Hp), AWP _ _ _ _ A H → _) => hK; clear hK)); (repeat (rename (Fr → Hp → Prop) => K; clear K))) | (show Exists _; (repeat (rename (∀ (A : Fr) (H : Hp), AWP _ _ _ _ A H → _) => hK; clear hK)); (repeat (rename (Fr → Hp → Prop) => K; clear K))) | skip)
  · refine end_tup2 rfl (by decide) (Sub.toL (by simp only [go_sem] <;> first | trivial | (simp only [Option.some.injEq, AV.v.injEq, AV.own.injEq, AV.list.injEq, Value.int.injEq, Value.bool.injEq, true_and, and_true]; first | omega | (simp; done)) | (simp; done) | (simp; omega)) (Hp.le_refl _)) ⟨?_, rfl⟩
    have e1 : (isSt p s ∧ s ∈ B.st) = (s ∈ B.st) := propext ⟨fun h => h.2, fun h => ⟨⟨hp, by assumption⟩, h⟩⟩
    rw [show decide (isSt p s ∧ s ∈ B.st) = decide (s ∈ B.st) from by simp only [e1]]
    unfold fdI
    simp only [e1]
    split
    · rw [lk_get (hy (by assumption)).2 hB (by assumption)]
    · rw [lk_none (hy (by assumption)).2 hB (by assumption)]
  · refine end_tup2 rfl (by decide) (Sub.toL (by simp only [go_sem] <;> first | trivial | (simp only [Option.some.injEq, AV.v.injEq, AV.own.injEq, AV.list.injEq, Value.int.injEq, Value.bool.injEq, true_and, and_true]; first | omega | (simp; done)) | (simp; done) | (simp; omega)) (Hp.le_refl _)) ⟨?_, rfl⟩
    have e1 : ¬ (isSt p s ∧ s ∈ B.st) := fun h => absurd h.1.2 (by assumption)
    unfold fdI
    rw [if_neg e1, decide_eq_false e1]
/-- What comes of exploring, with the place of a state. -/
def postS (p : Pz) (s : List Int) (r : AV) (H : Hp) : Prop := ((XS p).isSome = true ∧ r = .tup 3 (vecF [.ref 1000000 0, .v (.int .i64 (fdI p (XA p) s)), .v (.bool (decide (isSt p s ∧ s ∈ (XA p).st)))]) ∧ H = exH p (XA p)) ∨ ((XS p).isSome = false ∧ r = .tup 3 (vecF [.v (.pointer none), .v (.int .i64 (0)), .v (.bool (false))]) ∧ H = Hp.emp)
theorem XA_isB {p : Pz} (h : (XS p).isSome = true) : ∀ s ∈ (XA p).st, isB s := fun s hs => by
  obtain ⟨h1, h2, _⟩ := XA_whole h
  exact isB_of h1.n20 (h2.rng s hs)
theorem exploreState_ok (p : Pz) (s : List Int) (hs0 : p.s.size ≤ 140737488355328) : AC Try.prog 106 [pz p, ints s] Hp.emp (fun _ => false) (postS p s) := by
  have hf := fun h : (XS p).isSome = true => find_ok p (XA p) s (XA_whole h).1 (XA_isB h)
  refine ac_of_awp (N := ⟨_, fun _ => false, fun _ _ => rfl⟩) Try.func106 rfl (by kernel_rfl) Try.ntmps106 (by simp) ?_
  simp only [argsFr, List.zipIdx_cons, List.zipIdx_nil, go_sem]
  repeat' (first | ((first | refine atF (f := 99) ?_ | refine atQ (f := 99) ?_); refine callE (explore_ok p hs0) rfl (fun hX => ?_) (fun hX => ?_) <;> simp (maxSteps := 1000000) (dsimp := false) (implicitDefEqProofs := false) (disch := omega) only [wrap64, go_sem, pM_low]) | refine awp_seqK fun K hK => ?_ | (refine awp_regionK 66551 rfl ?_; simp only [List.map_cons, List.map_nil]; simp (maxSteps := 1000000) (dsimp := false) (implicitDefEqProofs := false) (disch := omega) only [wrap64, go_sem, pM_low]) | (refine awp_regionQK 66551 (by kernel_rfl) (by kernel_rfl) (by kernel_rfl) ?_; simp only [List.map_cons, List.map_nil]; simp (maxSteps := 1000000) (dsimp := false) (implicitDefEqProofs := false) (disch := omega) only [wrap64, go_sem, pM_low]) | refine awp_block ?_ | (refine awp_skip ?_; simp only [go_sem, pM_low]) | (refine awp_exit ?_; simp only [go_sem, pM_low]) | (refine awp_ret ?_; try simp only [go_sem, pM_low]) | (refine awp_condP rfl ?_; try simp only [go_sem, pM_low]) | (refine BrP.mk (fun h => ?_) (fun h => ?_) <;> try simp (dsimp := false) (disch := omega) only [wrap64]) | (refine Br.mk (fun h => ?_) (fun h => ?_) <;> try simp (dsimp := false) (disch := omega) only [wrap64]) | refine Ob.mk (by first | omega | (intro _ _; rfl) | trivial | (intros; trivial) | assumption | (intro i hi; have h0 : i = 0 := (by omega); subst h0; first | rfl | trivial) | (intro i hi; have h0 : i = 0 ∨ i = 1 := (by omega); rcases h0 with rfl | rfl <;> rfl) | (intro i hi; have h0 : i = 0 ∨ i = 1 ∨ i = 2 := (by omega); rcases h0 with rfl | rfl | rfl <;> rfl)) ?_ | ((first | ((first | refine atF (f := 104) ?_ | refine atQ (f := 104) ?_); refine callPn (Hin := exH p (XA p)) (by unfold exH exR; repeat' (first | exact Hp.le_emp _ | refine Hp.le_upd rfl ?_)) (hf (by assumption)) exH_pM (tup2_scrub _ _ _) (exH_scrub _ _) ?_)); simp (maxSteps := 1000000) (dsimp := false) (implicitDefEqProofs := false) (disch := omega) only [wrap64, go_sem, pM_low]) | apply_assumption -exfalso -symm)
  all_goals (first | (show endQ _ _ _ _ _ _ _; (repeat (rename (∀ (A : Fr) (H : Hp), AWP _ _ _ _ A H → _) => hK; clear hK)); (repeat (rename (Fr → Hp → Prop) => K; clear K))) | (show Exists _; (repeat (rename (∀ (A : Fr) (H : Hp), AWP _ _ _ _ A H → _) => hK; clear hK)); (repeat (rename (Fr → Hp → Prop) => K; clear K))) | skip)
  · refine end_tup3 rfl (by decide) (by decide) (by decide) (Sub.toL (by simp only [go_sem] <;> first | trivial | (simp only [Option.some.injEq, AV.v.injEq, AV.own.injEq, AV.list.injEq, Value.int.injEq, Value.bool.injEq, true_and, and_true]; first | omega | (simp; done)) | (simp; done) | (simp; omega)) ?_) (.inl ⟨by assumption, rfl, rfl⟩)
    unfold exH exR; repeat' (first | exact Hp.le_emp _ | refine Hp.le_upd rfl ?_)
  · exact end_tup3 rfl (by decide) (by decide) (by decide) (Sub.toL (by simp only [go_sem] <;> first | trivial | (simp only [Option.some.injEq, AV.v.injEq, AV.own.injEq, AV.list.injEq, Value.int.injEq, Value.bool.injEq, true_and, and_true]; first | omega | (simp; done)) | (simp; done) | (simp; omega)) (Hp.le_emp _)) (.inr ⟨by assumption, rfl, rfl⟩)
section
variable {P : Program} {N : Cx} {A : Fr} {H : Hp}
/-- A call of exploreState. -/
theorem callS3 {f : FuncId} {args : List AV} {p : Pz} {s : List Int} {pn : Nat → Bool} {K : AV → Fr → Hp → Prop} (hac : AC P f args Hp.emp pn (postS p s)) (hpn : N.pn = fun _ => false)
    (h1 : (XS p).isSome = true → K (.tup 3 (vecF [.ref 1000000 0, .v (.int .i64 (fdI p (XA p) s)), .v (.bool (decide (isSt p s ∧ s ∈ (XA p).st)))])) (A.scrub pM) (((H.scrub pM).upd 1000000 (.cells 9 (vecF [.v (.int .i64 (p.n)), .v (.string (p.s)), .list false 1 (p.m).length (cM ints [] (p.m)), .list false 1 ((XA p).st).length (cM ints [] ((XA p).st)), .list false 1 ((XA p).dp).length (cM iv 0 ((XA p).dp)), .map 1000003, .dead, .dead, .list false 1 ((XA p).nx).length (cM ints [] ((XA p).nx))]))).upd 1000003 (.mp (mS iv (kvs (XA p).st)))))
    (h2 : (XS p).isSome = false → K (.tup 3 (vecF [.v (.pointer none), .v (.int .i64 (0)), .v (.bool (false))])) (A.scrub pM) (H.scrub pM)) : CallG P N f args A H K := by
  refine callHp hac hpn fun r H' hp => ?_
  rcases hp with ⟨hs, rfl, rfl⟩ | ⟨hs, rfl, rfl⟩
  · refine ⟨exH_ge, ?_, exH_scrub p _, ?_⟩
    · have e : liveB (exH p (XA p)) 1000000 = true := rfl
      rw [scrub_tup, scF_vecF]
      simp only [List.map_cons, List.map_nil, AV.scrub, e, Bool.not_true, Bool.false_eq_true, if_false]
    · have e : (exH p (XA p)).add (H.scrub pM) = ((H.scrub pM).upd 1000000 (.cells 9 (exR p (XA p)))).upd 1000003 (.mp (mS iv (kvs (XA p).st))) := by unfold exH; rw [upd_add, upd_add, emp_add]
      rw [e]; exact h1 hs
  · exact ⟨fun h hh => absurd rfl hh, by simp only [scrub_tup, scF_vecF, List.map_cons, List.map_nil, scrub_v], rfl, h2 hs⟩
end
end Go.Proofs.Ytdllbnchcjgcdaa
end
/- From one state to another. -/
section
namespace Go.Proofs.Ytdllbnchcjgcdaa
open Go.Av
set_option linter.unusedSimpArgs false
set_option linter.unusedVariables false
attribute [local irreducible] AWP CallG Ob Br BrP Go.Av.Sub endQ AOps OpV AC thenA blkA opsVC opVC withA withArgs opsQ opQ CallQ withA2 withArgs2
open Go.Pm (Pm comp invp idn img Gen Bf srch sorts srtN Srt slot sidx insAt)
theorem XA_mem {p : Pz} (h : (XS p).isSome = true) (s : List Int) : s ∈ (XA p).st ↔ Gen p.n.toNat ((lsP p).map (·.2)) s := by
  obtain ⟨B, hB⟩ := Option.isSome_iff_exists.1 h
  have hz := XS_pz hB
  rw [XA_some hB]
  rw [XS_yes hz] at hB
  obtain ⟨K, h1, h2, rfl⟩ := Go.Pm.srch_fin hB
  rw [h1.mem (lsP_pm hz) (idn_in _)]
  constructor
  · rintro ⟨g, hg, rfl⟩
    rw [(hg.pm (lsP_pm hz)).idn_comp]; exact hg
  · intro hg
    exact ⟨s, hg, ((hg.pm (lsP_pm hz)).idn_comp).symm⟩
theorem XA_btw {p : Pz} (h : (XS p).isSome = true) {a b : List Int} (ha : a ∈ (XA p).st) (hb : b ∈ (XA p).st) : comp (invp b) a ∈ (XA p).st := by
  have hz := (XA_whole h).1
  rw [XA_mem h] at ha hb ⊢
  exact (Gen.inv (lsP_pm hz) hb).prod (lsP_pm hz) ha
/-- Both states are among those that can be reached. -/
def okB (p : Pz) (a b : List Int) : Prop := (XS p).isSome = true ∧ isSt p a ∧ isSt p b ∧ a ∈ (XA p).st ∧ b ∈ (XA p).st
noncomputable instance (p : Pz) (a b : List Int) : Decidable (okB p a b) := by unfold okB; infer_instance
noncomputable def btwR (p : Pz) (a b : List Int) : List Int × Bool := if okB p a b then (comp (invp b) a, true) else ([], false)
theorem btw_st {p : Pz} {a b : List Int} (h : okB p a b) : isSt p (comp (invp b) a) := by
  have hn := h.2.1.1.n
  have h1 := h.2.2.1.pm.inv.comp h.2.1.pm
  exact ⟨h.2.1.1, by rw [h1.1]; omega, (isPerm_pm _).2 ⟨by rw [h1.1]; omega, by rw [h1.1]; exact h1⟩⟩
theorem samePerm_ok (a b : List Int) : AC Try.prog 175 [ints a, ints b] Hp.emp (fun _ => false) (retV (.v (.bool (decide (isPerm a ∧ isPerm b ∧ a.length = b.length))))) := by
  refine ac_of_awp (N := ⟨_, fun _ => false, fun _ _ => rfl⟩) Try.func175 rfl (by kernel_rfl) Try.ntmps175 (by simp) ?_
  simp only [argsFr, List.zipIdx_cons, List.zipIdx_nil, go_sem]
  repeat' (first | refine awp_seqK fun K hK => ?_ | (refine awp_regionK 19 rfl ?_; simp only [List.map_cons, List.map_nil]; simp (maxSteps := 1000000) (dsimp := false) (implicitDefEqProofs := false) (disch := omega) only [wrap64, go_sem]) | (refine awp_regionQK 19 (by kernel_rfl) (by kernel_rfl) (by kernel_rfl) ?_; simp only [List.map_cons, List.map_nil]; simp (maxSteps := 1000000) (dsimp := false) (implicitDefEqProofs := false) (disch := omega) only [wrap64, go_sem]) | refine awp_block ?_ | (refine awp_skip ?_; simp only [go_sem]) | (refine awp_exit ?_; simp only [go_sem]) | (refine awp_ret ?_; try simp only [go_sem]) | (refine awp_condP rfl ?_; try simp only [go_sem]) | (refine BrP.mk (fun h => ?_) (fun h => ?_) <;> try simp (dsimp := false) (disch := omega) only [wrap64]) | (refine Br.mk (fun h => ?_) (fun h => ?_) <;> try simp (dsimp := false) (disch := omega) only [wrap64]) | refine Ob.mk (by first | omega | (intro _ _; rfl) | trivial | (intros; trivial) | assumption | (intro i hi; have h0 : i = 0 := (by omega); subst h0; first | rfl | trivial) | (intro i hi; have h0 : i = 0 ∨ i = 1 := (by omega); rcases h0 with rfl | rfl <;> rfl) | (intro i hi; have h0 : i = 0 ∨ i = 1 ∨ i = 2 := (by omega); rcases h0 with rfl | rfl | rfl <;> rfl)) ?_ | ((first | ((first | refine atF (f := 140) ?_ | refine atQ (f := 140) ?_); (first | (refine cV (hac := specIsPermutation_ok a) (hK := ?_)) | (refine cQV (hac := specIsPermutation_ok a) (hK := ?_)))) | ((first | refine atF (f := 140) ?_ | refine atQ (f := 140) ?_); (first | (refine cV (hac := specIsPermutation_ok b) (hK := ?_)) | (refine cQV (hac := specIsPermutation_ok b) (hK := ?_))))); simp (maxSteps := 1000000) (dsimp := false) (implicitDefEqProofs := false) (disch := omega) only [wrap64, go_sem]) | apply_assumption -exfalso -symm)
  all_goals (first | (show endQ _ _ _ _ _ _ _; (repeat (rename (∀ (A : Fr) (H : Hp), AWP _ _ _ _ A H → _) => hK; clear hK)); (repeat (rename (Fr → Hp → Prop) => K; clear K))) | (show Exists _; (repeat (rename (∀ (A : Fr) (H : Hp), AWP _ _ _ _ A H → _) => hK; clear hK)); (repeat (rename (Fr → Hp → Prop) => K; clear K))) | skip)
  · refine end_retB rfl rfl ?_
    simp only [decide_eq_true_eq]
    exact ⟨fun k => ⟨by assumption, by assumption, by omega⟩, fun k => by omega⟩
  · refine end_retB rfl rfl ?_
    simp only [Bool.false_eq_true, false_iff]
    exact fun k => absurd k.2.1 (by assumption)
  · refine end_retB rfl rfl ?_
    simp only [Bool.false_eq_true, false_iff]
    exact fun k => absurd k.1 (by assumption)
theorem specComposeU_ok (a b : List Int) (ha : isPerm a) (hb : isPerm b) (hl : a.length = b.length) (d : Nat) : AC Try.prog 157 [ints a, ints b] Hp.emp (fun _ => false) (retIB d (comp a b) true) := by
  have h1 := (isPerm_pm a).1 ha
  have hp := h1.2.2.1
  refine ac_of_awp (N := ⟨_, fun _ => false, fun _ _ => rfl⟩) Try.func157 rfl (by kernel_rfl) Try.ntmps157 (by simp) ?_
  simp only [argsFr, List.zipIdx_cons, List.zipIdx_nil, go_sem]
  repeat' (first | refine awp_seqK fun K hK => ?_ | (refine awp_regionK 563 rfl ?_; simp only [List.map_cons, List.map_nil]; simp (maxSteps := 1000000) (dsimp := false) (implicitDefEqProofs := false) (disch := omega) only [wrap64, go_sem]) | (refine awp_regionQK 563 (by kernel_rfl) (by kernel_rfl) (by kernel_rfl) ?_; simp only [List.map_cons, List.map_nil]; simp (maxSteps := 1000000) (dsimp := false) (implicitDefEqProofs := false) (disch := omega) only [wrap64, go_sem]) | refine awp_block ?_ | (refine awp_skip ?_; simp only [go_sem]) | (refine awp_exit ?_; simp only [go_sem]) | (refine awp_ret ?_; try simp only [go_sem]) | (refine awp_condP rfl ?_; try simp only [go_sem]) | (refine BrP.mk (fun h => ?_) (fun h => ?_) <;> try simp (dsimp := false) (disch := omega) only [wrap64]) | (refine Br.mk (fun h => ?_) (fun h => ?_) <;> try simp (dsimp := false) (disch := omega) only [wrap64]) | refine Ob.mk (by first | omega | (intro _ _; rfl) | trivial | (intros; trivial) | assumption | (intro i hi; have h0 : i = 0 := (by omega); subst h0; first | rfl | trivial) | (intro i hi; have h0 : i = 0 ∨ i = 1 := (by omega); rcases h0 with rfl | rfl <;> rfl) | (intro i hi; have h0 : i = 0 ∨ i = 1 ∨ i = 2 := (by omega); rcases h0 with rfl | rfl | rfl <;> rfl)) ?_ | ((first | ((first | refine atF (f := 175) ?_ | refine atQ (f := 175) ?_); (first | (refine cV (hac := samePerm_ok a b) (hK := ?_)) | (refine cQV (hac := samePerm_ok a b) (hK := ?_)))) | ((first | refine atF (f := 176) ?_ | refine atQ (f := 176) ?_); (first | (refine cI (hac := specCompose_ok a b (by omega) (fun j hj => by rw [← hl]; exact hp j hj) 13) (hK := ?_)) | (refine cQI (hac := specCompose_ok a b (by omega) (fun j hj => by rw [← hl]; exact hp j hj) 13) (hK := ?_))))); simp (maxSteps := 1000000) (dsimp := false) (implicitDefEqProofs := false) (disch := omega) only [wrap64, go_sem]) | apply_assumption -exfalso -symm)
  all_goals (first | (show endQ _ _ _ _ _ _ _; (repeat (rename (∀ (A : Fr) (H : Hp), AWP _ _ _ _ A H → _) => hK; clear hK)); (repeat (rename (Fr → Hp → Prop) => K; clear K))) | (show Exists _; (repeat (rename (∀ (A : Fr) (H : Hp), AWP _ _ _ _ A H → _) => hK; clear hK)); (repeat (rename (Fr → Hp → Prop) => K; clear K))) | skip)
  · exact end_retIB' (p := (comp a b, true)) rfl rfl rfl rfl rfl (by decide) rfl rfl
  · exact absurd (show isPerm a ∧ isPerm b ∧ a.length = b.length from ⟨ha, hb, hl⟩) (by assumption)
theorem at_ok (p : Pz) (B : Bf) (s : List Int) (hB : ∀ s ∈ B.st, isB s) (hs : s ∈ B.st) (hl : s.length ≤ 20) : AC Try.prog 158 [.ref 1000000 0, ints s] (exH p B) pM (fun r H => r = .v (.int .i64 (((B.st.idxOf s : Nat) : Int))) ∧ H = exH p B) := by
  have hk := lk_get (xs := B.st) (hB s hs) hB hs
  refine ac_of_awp (N := ⟨_, pM, fun h hh => pM_low (Nat.lt_of_lt_of_le hh (by decide))⟩) Try.func158 rfl (by kernel_rfl) Try.ntmps158 (by simp) ?_
  simp only [argsFr, List.zipIdx_cons, List.zipIdx_nil, go_sem]
  unfold exH exR
  repeat' (first | refine awp_seqK fun K hK => ?_ | (refine awp_regionK 19 rfl ?_; simp only [List.map_cons, List.map_nil]; simp (maxSteps := 1000000) (dsimp := false) (implicitDefEqProofs := false) (disch := omega) only [wrap64, go_sem, hk]) | (refine awp_regionQK 19 (by kernel_rfl) (by kernel_rfl) (by kernel_rfl) ?_; simp only [List.map_cons, List.map_nil]; simp (maxSteps := 1000000) (dsimp := false) (implicitDefEqProofs := false) (disch := omega) only [wrap64, go_sem, hk]) | refine awp_block ?_ | (refine awp_skip ?_; simp only [go_sem, hk]) | (refine awp_exit ?_; simp only [go_sem, hk]) | (refine awp_ret ?_; try simp only [go_sem, hk]) | (refine awp_condP rfl ?_; try simp only [go_sem, hk]) | (refine BrP.mk (fun h => ?_) (fun h => ?_) <;> try simp (dsimp := false) (disch := omega) only [wrap64]) | (refine Br.mk (fun h => ?_) (fun h => ?_) <;> try simp (dsimp := false) (disch := omega) only [wrap64]) | refine Ob.mk (by first | omega | (intro _ _; rfl) | trivial | (intros; trivial) | assumption | (intro i hi; have h0 : i = 0 := (by omega); subst h0; first | rfl | trivial) | (intro i hi; have h0 : i = 0 ∨ i = 1 := (by omega); rcases h0 with rfl | rfl <;> rfl) | (intro i hi; have h0 : i = 0 ∨ i = 1 ∨ i = 2 := (by omega); rcases h0 with rfl | rfl | rfl <;> rfl)) ?_ | ((first | ((first | refine atF (f := 147) ?_ | refine atQ (f := 147) ?_); (first | (refine cV (hac := stateKey_ok s (by omega) (hB s hs)) (hK := ?_)) | (refine cQV (hac := stateKey_ok s (by omega) (hB s hs)) (hK := ?_))))); simp (maxSteps := 1000000) (dsimp := false) (implicitDefEqProofs := false) (disch := omega) only [wrap64, go_sem, hk]) | apply_assumption -exfalso -symm)
  all_goals (first | (show endQ _ _ _ _ _ _ _; (repeat (rename (∀ (A : Fr) (H : Hp), AWP _ _ _ _ A H → _) => hK; clear hK)); (repeat (rename (Fr → Hp → Prop) => K; clear K))) | (show Exists _; (repeat (rename (∀ (A : Fr) (H : Hp), AWP _ _ _ _ A H → _) => hK; clear hK)); (repeat (rename (Fr → Hp → Prop) => K; clear K))) | skip)
  · refine end_post rfl rfl (Hp.le_refl _) ?_
    exact ⟨rfl, rfl⟩
theorem sidx_mem {xs : List (List Int)} {s : List Int} : ¬ sidx xs s < 0 ↔ s ∈ xs := by
  rw [← sidx_yes]; omega
theorem stateBetween_ok (p : Pz) (a b : List Int) (d : Nat) : AC Try.prog 118 [pz p, ints a, ints b] Hp.emp (fun _ => false) (retIB d (btwR p a b).1 (btwR p a b).2) := by
  have hac := searchStates_ok p
  have hsc := XAt_scrub p (fun _ => true) (XS p).isSome
  have hid : ∀ s, (XS p).isSome = true → isSt p s → AC Try.prog 103 [slA (XA p).st (sorts (XA p).st), ints s] Hp.emp (fun _ => false) (retV (.v (.int .i64 (sidx (XA p).st s)))) := fun s h h2 => idxP_ok h h2.len
  have hla : isSt p a → a.length ≤ 20 ∧ isPerm a := fun h => ⟨((isPerm_pm a).1 h.2.2).1.2, h.2.2⟩
  have hlb : isSt p b → b.length ≤ 20 ∧ isPerm b ∧ isPerm (invp b) ∧ (invp b).length = p.n.toNat := fun h => by
    have h1 := h.pm.inv
    have hn := h.1.n
    exact ⟨((isPerm_pm b).1 h.2.2).1.2, h.2.2, (isPerm_pm _).2 ⟨by rw [h1.1]; omega, by rw [h1.1]; exact h1⟩, h1.1⟩
  have hab : isSt p a → isSt p b → (invp b).length = a.length := fun h k => by rw [(hlb k).2.2.2, h.len]
  have hyes : (XS p).isSome = true → isSt p a → isSt p b → ¬ sidx (XA p).st a < 0 → ¬ sidx (XA p).st b < 0 → btwR p a b = (comp (invp b) a, true) := fun h1 h2 h3 h4 h5 => if_pos ⟨h1, h2, h3, sidx_mem.1 h4, sidx_mem.1 h5⟩
  have hno1 : (XS p).isSome = false → btwR p a b = ([], false) := fun h => if_neg (fun k => by have := k.1; rw [h] at this; simp at this)
  have hno2 : ¬ isSt p a → btwR p a b = ([], false) := fun h => if_neg (fun k => h k.2.1)
  have hno3 : ¬ isSt p b → btwR p a b = ([], false) := fun h => if_neg (fun k => h k.2.2.1)
  have hno4 : sidx (XA p).st a < 0 → btwR p a b = ([], false) := fun h => if_neg (fun k => (sidx_mem.2 k.2.2.2.1) h)
  have hno5 : sidx (XA p).st b < 0 → btwR p a b = ([], false) := fun h => if_neg (fun k => (sidx_mem.2 k.2.2.2.2) h)
  unfold sFw at hac hsc
  refine ac_of_awp (N := ⟨_, fun _ => false, fun _ _ => rfl⟩) Try.func118 rfl (by kernel_rfl) Try.ntmps118 (by simp) ?_
  simp only [argsFr, List.zipIdx_cons, List.zipIdx_nil, go_sem]
  repeat' (first | (refine ob4 rfl rfl rfl rfl ?_) | refine awp_seqK fun K hK => ?_ | (refine awp_regionK 4398046513103 rfl ?_; simp only [List.map_cons, List.map_nil]; simp (maxSteps := 1000000) (dsimp := false) (implicitDefEqProofs := false) (disch := omega) only [wrap64, go_sem]) | (refine awp_regionQK 4398046513103 (by kernel_rfl) (by kernel_rfl) (by kernel_rfl) ?_; simp only [List.map_cons, List.map_nil]; simp (maxSteps := 1000000) (dsimp := false) (implicitDefEqProofs := false) (disch := omega) only [wrap64, go_sem]) | refine awp_block ?_ | (refine awp_skip ?_; simp only [go_sem]) | (refine awp_exit ?_; simp only [go_sem]) | (refine awp_ret ?_; try simp only [go_sem]) | (refine awp_condP rfl ?_; try simp only [go_sem]) | (refine BrP.mk (fun h => ?_) (fun h => ?_) <;> try simp (dsimp := false) (disch := omega) only [wrap64]) | (refine Br.mk (fun h => ?_) (fun h => ?_) <;> try simp (dsimp := false) (disch := omega) only [wrap64]) | refine Ob.mk (by first | omega | (intro _ _; rfl) | trivial | (intros; trivial) | assumption | (intro i hi; have h0 : i = 0 := (by omega); subst h0; first | rfl | trivial) | (intro i hi; have h0 : i = 0 ∨ i = 1 := (by omega); rcases h0 with rfl | rfl <;> rfl) | (intro i hi; have h0 : i = 0 ∨ i = 1 ∨ i = 2 := (by omega); rcases h0 with rfl | rfl | rfl <;> rfl)) ?_ | ((first | (refine cR (hac := hac) (hK := ?_) (hs := hsc)) | ((first | refine atF (f := 88) ?_ | refine atQ (f := 88) ?_); (first | (refine cV (hac := specIsState_ok p a) (hK := ?_)) | (refine cQV (hac := specIsState_ok p a) (hK := ?_)))) | ((first | refine atF (f := 88) ?_ | refine atQ (f := 88) ?_); (first | (refine cV (hac := specIsState_ok p b) (hK := ?_)) | (refine cQV (hac := specIsState_ok p b) (hK := ?_)))) | ((first | refine atF (f := 103) ?_ | refine atQ (f := 103) ?_); (first | refine cV (hfit := .cons (fits_slF rfl rfl) (.cons (.refl _) .nil)) (hac := hid a (by assumption) (by assumption)) (hK := ?_) | refine cV (hfit := .cons (fits_slF rfl rfl) (.cons (.refl _) .nil)) (hac := hid b (by assumption) (by assumption)) (hK := ?_))) | ((first | refine atF (f := 156) ?_ | refine atQ (f := 156) ?_); (first | (refine cFI (hac := specInverseU_ok b (hlb (by assumption)).2.1 46) (hK := ?_)) | (refine cQI (hac := specInverseU_ok b (hlb (by assumption)).2.1 46) (hK := ?_)))) | ((first | refine atF (f := 157) ?_ | refine atQ (f := 157) ?_); (first | (refine cIB (hac := specComposeU_ok (invp b) a (hlb (by assumption)).2.2.1 (hla (by assumption)).2 (hab (by assumption) (by assumption)) 44) (hK := ?_))))); simp (maxSteps := 1000000) (dsimp := false) (implicitDefEqProofs := false) (disch := omega) only [wrap64, go_sem]) | apply_assumption -exfalso -symm)
  all_goals (first | (show endQ _ _ _ _ _ _ _; (repeat (rename (∀ (A : Fr) (H : Hp), AWP _ _ _ _ A H → _) => hK; clear hK)); (repeat (rename (Fr → Hp → Prop) => K; clear K))) | (show Exists _; (repeat (rename (∀ (A : Fr) (H : Hp), AWP _ _ _ _ A H → _) => hK; clear hK)); (repeat (rename (Fr → Hp → Prop) => K; clear K))) | skip)
  · exact end_retIB' rfl rfl rfl rfl (hno4 (by assumption)) (by decide) rfl rfl
  · exact end_retIB' rfl rfl rfl rfl (hno5 (by assumption)) (by decide) rfl rfl
  · exact end_retIB' rfl rfl rfl rfl (hyes (by assumption) (by assumption) (by assumption) (by assumption) (by assumption)) (by decide) rfl rfl
  · exact end_retIB' rfl rfl rfl rfl (hno3 (by assumption)) (by decide) rfl rfl
  · exact end_retIB' rfl rfl rfl rfl (hno2 (by assumption)) (by decide) rfl rfl
  · exact end_retIB' rfl rfl rfl rfl (hno1 (by assumption)) (by decide) rfl rfl
def postB (p : Pz) (a b : List Int) (r : AV) (H : Hp) : Prop := (okB p a b ∧ r = .tup 3 (vecF [.ref 1000000 0, .v (.int .i64 ((((XA p).st.idxOf (comp (invp b) a) : Nat) : Int))), .v (.bool (true))]) ∧ H = exH p (XA p)) ∨ (¬ okB p a b ∧ r = .tup 3 (vecF [.v (.pointer none), .v (.int .i64 (0)), .v (.bool (false))]) ∧ H = Hp.emp)
theorem between_ok (p : Pz) (a b : List Int) (hs0 : p.s.size ≤ 140737488355328) : AC Try.prog 119 [pz p, ints a, ints b] Hp.emp (fun _ => false) (postB p a b) := by
  have hf := fun h : (XS p).isSome = true => find_ok p (XA p) b (XA_whole h).1 (XA_isB h)
  have hbl : isSt p b ∧ b ∈ (XA p).st → b.length ≤ 20 ∧ Pm b.length b := fun h => by
    have h1 := (isPerm_pm b).1 h.1.2.2
    exact ⟨h1.1.2, h1.2⟩
  have hbi : isSt p a ∧ a ∈ (XA p).st → isSt p b ∧ b ∈ (XA p).st → (invp b).length ≤ 20 ∧ (∀ j, j < (invp b).length → 0 ≤ (invp b).getD j 0 ∧ (invp b).getD j 0 < a.length) := fun k h => by
    have h1 := h.1.pm.inv
    have hn := h.1.1.n
    have := k.1.len
    exact ⟨by rw [h1.1]; omega, fun j hj => by rw [this]; exact h1.2.1 j (by rw [← h1.1]; exact hj)⟩
  have hok : (XS p).isSome = true → isSt p a ∧ a ∈ (XA p).st → isSt p b ∧ b ∈ (XA p).st → okB p a b := fun h1 h2 h3 => ⟨h1, h2.1, h3.1, h2.2, h3.2⟩
  have hat : (XS p).isSome = true → isSt p a ∧ a ∈ (XA p).st → isSt p b ∧ b ∈ (XA p).st → AC Try.prog 158 [.ref 1000000 0, ints (comp (invp b) a)] (exH p (XA p)) pM (fun r H => r = .v (.int .i64 ((((XA p).st.idxOf (comp (invp b) a) : Nat) : Int))) ∧ H = exH p (XA p)) := fun h1 h2 h3 => by
    have h4 := btw_st (hok h1 h2 h3)
    have := h4.len
    have := h4.1.n20
    exact at_ok p (XA p) _ (XA_isB h1) (XA_btw h1 h2.2 h3.2) (by omega)
  refine ac_of_awp (N := ⟨_, fun _ => false, fun _ _ => rfl⟩) Try.func119 rfl (by kernel_rfl) Try.ntmps119 (by simp) ?_
  simp only [argsFr, List.zipIdx_cons, List.zipIdx_nil, go_sem]
  repeat' (first | ((first | refine atF (f := 106) ?_ | refine atQ (f := 106) ?_); refine callS3 (exploreState_ok p a hs0) rfl (fun hX => ?_) (fun hX => ?_) <;> simp (maxSteps := 1000000) (dsimp := false) (implicitDefEqProofs := false) (disch := omega) only [wrap64, go_sem, pM_low]) | refine awp_seqK fun K hK => ?_ | (refine awp_regionK 1077947343 rfl ?_; simp only [List.map_cons, List.map_nil]; simp (maxSteps := 1000000) (dsimp := false) (implicitDefEqProofs := false) (disch := omega) only [wrap64, go_sem, pM_low]) | (refine awp_regionQK 1077947343 (by kernel_rfl) (by kernel_rfl) (by kernel_rfl) ?_; simp only [List.map_cons, List.map_nil]; simp (maxSteps := 1000000) (dsimp := false) (implicitDefEqProofs := false) (disch := omega) only [wrap64, go_sem, pM_low]) | refine awp_block ?_ | (refine awp_skip ?_; simp only [go_sem, pM_low]) | (refine awp_exit ?_; simp only [go_sem, pM_low]) | (refine awp_ret ?_; try simp only [go_sem, pM_low]) | (refine awp_condP rfl ?_; try simp only [go_sem, pM_low]) | (refine BrP.mk (fun h => ?_) (fun h => ?_) <;> try simp (dsimp := false) (disch := omega) only [wrap64]) | (refine Br.mk (fun h => ?_) (fun h => ?_) <;> try simp (dsimp := false) (disch := omega) only [wrap64]) | refine Ob.mk (by first | omega | (intro _ _; rfl) | trivial | (intros; trivial) | assumption | (intro i hi; have h0 : i = 0 := (by omega); subst h0; first | rfl | trivial) | (intro i hi; have h0 : i = 0 ∨ i = 1 := (by omega); rcases h0 with rfl | rfl <;> rfl) | (intro i hi; have h0 : i = 0 ∨ i = 1 ∨ i = 2 := (by omega); rcases h0 with rfl | rfl | rfl <;> rfl)) ?_ | ((first | ((first | refine atF (f := 104) ?_ | refine atQ (f := 104) ?_); refine callPn (Hin := exH p (XA p)) (by unfold exH exR; repeat' (first | exact Hp.le_emp _ | refine Hp.le_upd rfl ?_)) (hf (by assumption)) exH_pM (tup2_scrub _ _ _) (exH_scrub _ _) ?_) | ((first | refine atF (f := 143) ?_ | refine atQ (f := 143) ?_); (first | (refine cFI (hac := implInverse_ok b (by have := hbl (by assumption); omega) (hbl (by assumption)).2 34) (hK := ?_)) | (refine cQI (hac := implInverse_ok b (by have := hbl (by assumption); omega) (hbl (by assumption)).2 34) (hK := ?_)))) | ((first | refine atF (f := 129) ?_ | refine atQ (f := 129) ?_); (first | (refine cFI (hac := implCompose_ok (invp b) a (by have := hbi (by assumption) (by assumption); omega) (hbi (by assumption) (by assumption)).2 36) (hK := ?_)) | (refine cQI (hac := implCompose_ok (invp b) a (by have := hbi (by assumption) (by assumption); omega) (hbi (by assumption) (by assumption)).2 36) (hK := ?_)))) | ((first | refine atF (f := 158) ?_ | refine atQ (f := 158) ?_); refine callPn (Hin := exH p (XA p)) (by unfold exH exR; repeat' (first | exact Hp.le_emp _ | refine Hp.le_upd rfl ?_)) (hat (by assumption) (by assumption) (by assumption)) exH_pM rfl (exH_scrub _ _) ?_)); simp (maxSteps := 1000000) (dsimp := false) (implicitDefEqProofs := false) (disch := omega) only [wrap64, go_sem, pM_low]) | apply_assumption -exfalso -symm)
  all_goals (first | (show endQ _ _ _ _ _ _ _; (repeat (rename (∀ (A : Fr) (H : Hp), AWP _ _ _ _ A H → _) => hK; clear hK)); (repeat (rename (Fr → Hp → Prop) => K; clear K))) | (show Exists _; (repeat (rename (∀ (A : Fr) (H : Hp), AWP _ _ _ _ A H → _) => hK; clear hK)); (repeat (rename (Fr → Hp → Prop) => K; clear K))) | skip)
  · refine end_tup3 rfl (by decide) (by decide) (by decide) (Sub.toL (by simp only [go_sem] <;> first | trivial | (simp only [Option.some.injEq, AV.v.injEq, AV.own.injEq, AV.list.injEq, Value.int.injEq, Value.bool.injEq, true_and, and_true]; first | omega | (simp; done)) | (simp; done) | (simp; omega)) ?_) (.inl ⟨hok (by assumption) (by assumption) (by assumption), rfl, rfl⟩)
    unfold exH exR; repeat' (first | exact Hp.le_emp _ | refine Hp.le_upd rfl ?_)
  · exact end_tup3 rfl (by decide) (by decide) (by decide) (Sub.toL (by simp only [go_sem] <;> first | trivial | (simp only [Option.some.injEq, AV.v.injEq, AV.own.injEq, AV.list.injEq, Value.int.injEq, Value.bool.injEq, true_and, and_true]; first | omega | (simp; done)) | (simp; done) | (simp; omega)) (Hp.le_emp _)) (.inr ⟨fun h => absurd (show isSt p b ∧ b ∈ (XA p).st from ⟨h.2.2.1, h.2.2.2.2⟩) (by assumption), rfl, rfl⟩)
  · exact end_tup3 rfl (by decide) (by decide) (by decide) (Sub.toL (by simp only [go_sem] <;> first | trivial | (simp only [Option.some.injEq, AV.v.injEq, AV.own.injEq, AV.list.injEq, Value.int.injEq, Value.bool.injEq, true_and, and_true]; first | omega | (simp; done)) | (simp; done) | (simp; omega)) (Hp.le_emp _)) (.inr ⟨fun h => absurd (show isSt p a ∧ a ∈ (XA p).st from ⟨h.2.1, h.2.2.2.1⟩) (by assumption), rfl, rfl⟩)
  · exact end_tup3 rfl (by decide) (by decide) (by decide) (Sub.toL (by simp only [go_sem] <;> first | trivial | (simp only [Option.some.injEq, AV.v.injEq, AV.own.injEq, AV.list.injEq, Value.int.injEq, Value.bool.injEq, true_and, and_true]; first | omega | (simp; done)) | (simp; done) | (simp; omega)) (Hp.le_emp _)) (.inr ⟨fun h => absurd h.1 (by rw [(by assumption : (XS p).isSome = false)]; exact Bool.false_ne_true), rfl, rfl⟩)
section
variable {P : Program} {N : Cx} {A : Fr} {H : Hp}
/-- A call of between. -/
theorem callB3 {f : FuncId} {args : List AV} {p : Pz} {a b : List Int} {pn : Nat → Bool} {K : AV → Fr → Hp → Prop} (hac : AC P f args Hp.emp pn (postB p a b)) (hpn : N.pn = fun _ => false)
    (h1 : okB p a b → K (.tup 3 (vecF [.ref 1000000 0, .v (.int .i64 ((((XA p).st.idxOf (comp (invp b) a) : Nat) : Int))), .v (.bool (true))])) (A.scrub pM) (((H.scrub pM).upd 1000000 (.cells 9 (vecF [.v (.int .i64 (p.n)), .v (.string (p.s)), .list false 1 (p.m).length (cM ints [] (p.m)), .list false 1 ((XA p).st).length (cM ints [] ((XA p).st)), .list false 1 ((XA p).dp).length (cM iv 0 ((XA p).dp)), .map 1000003, .dead, .dead, .list false 1 ((XA p).nx).length (cM ints [] ((XA p).nx))]))).upd 1000003 (.mp (mS iv (kvs (XA p).st)))))
    (h2 : ¬ okB p a b → K (.tup 3 (vecF [.v (.pointer none), .v (.int .i64 (0)), .v (.bool (false))])) (A.scrub pM) (H.scrub pM)) : CallG P N f args A H K := by
  refine callHp hac hpn fun r H' hp => ?_
  rcases hp with ⟨hs, rfl, rfl⟩ | ⟨hs, rfl, rfl⟩
  · refine ⟨exH_ge, ?_, exH_scrub p _, ?_⟩
    · have e : liveB (exH p (XA p)) 1000000 = true := rfl
      rw [scrub_tup, scF_vecF]
      simp only [List.map_cons, List.map_nil, AV.scrub, e, Bool.not_true, Bool.false_eq_true, if_false]
    · have e : (exH p (XA p)).add (H.scrub pM) = ((H.scrub pM).upd 1000000 (.cells 9 (exR p (XA p)))).upd 1000003 (.mp (mS iv (kvs (XA p).st))) := by unfold exH; rw [upd_add, upd_add, emp_add]
      rw [e]; exact h1 hs
  · exact ⟨fun h hh => absurd rfl hh, by simp only [scrub_tup, scF_vecF, List.map_cons, List.map_nil, scrub_v], rfl, h2 hs⟩
end
end Go.Proofs.Ytdllbnchcjgcdaa
end
/- Whether a word is a shortest solution. -/
section
namespace Go.Proofs.Ytdllbnchcjgcdaa
open Go.Av
set_option linter.unusedSimpArgs false
set_option linter.unusedVariables false
attribute [local irreducible] AWP CallG Ob Br BrP Go.Av.Sub endQ AOps OpV AC thenA blkA opsVC opVC withA withArgs opsQ opQ CallQ withA2 withArgs2
open Go.Pm (Pm comp invp idn img)
theorem isSt_rng {p : Pz} {s : List Int} (h : isSt p s) : s.length ≤ 20 ∧ ∀ j, j < s.length → 0 ≤ s.getD j 0 ∧ s.getD j 0 < p.n.toNat := by
  have h1 := h.pm
  have hn := h.1.n
  exact ⟨by rw [h1.1]; omega, fun j hj => h1.2.1 j (by rw [← h1.1]; exact hj)⟩
theorem solvesState_ok (p : Pz) (s w : List Int) (h : isSt p s) (hw : isW p.m.length w) : AC Try.prog 112 [pz p, ints s, ints w] Hp.emp (fun _ => false) (retV (.v (.bool (decide (comp s (evalP p.n.toNat p.m w) = marks 0 s.length))))) := by
  have hr := isSt_rng h
  have hcl := Go.Pm.comp_length s (evalP p.n.toNat p.m w)
  refine ac_of_awp (N := ⟨_, fun _ => false, fun _ _ => rfl⟩) Try.func112 rfl (by kernel_rfl) Try.ntmps112 (by simp) ?_
  simp only [argsFr, List.zipIdx_cons, List.zipIdx_nil, go_sem]
  repeat' (first | refine awp_seqK fun K hK => ?_ | (refine awp_regionK 79 rfl ?_; simp only [List.map_cons, List.map_nil]; simp (maxSteps := 1000000) (dsimp := false) (implicitDefEqProofs := false) (disch := omega) only [wrap64, go_sem]) | (refine awp_regionQK 79 (by kernel_rfl) (by kernel_rfl) (by kernel_rfl) ?_; simp only [List.map_cons, List.map_nil]; simp (maxSteps := 1000000) (dsimp := false) (implicitDefEqProofs := false) (disch := omega) only [wrap64, go_sem]) | refine awp_block ?_ | (refine awp_skip ?_; simp only [go_sem]) | (refine awp_exit ?_; simp only [go_sem]) | (refine awp_ret ?_; try simp only [go_sem]) | (refine awp_condP rfl ?_; try simp only [go_sem]) | (refine BrP.mk (fun h => ?_) (fun h => ?_) <;> try simp (dsimp := false) (disch := omega) only [wrap64]) | (refine Br.mk (fun h => ?_) (fun h => ?_) <;> try simp (dsimp := false) (disch := omega) only [wrap64]) | refine Ob.mk (by first | omega | (intro _ _; rfl) | trivial | (intros; trivial) | assumption | (intro i hi; have h0 : i = 0 := (by omega); subst h0; first | rfl | trivial) | (intro i hi; have h0 : i = 0 ∨ i = 1 := (by omega); rcases h0 with rfl | rfl <;> rfl) | (intro i hi; have h0 : i = 0 ∨ i = 1 ∨ i = 2 := (by omega); rcases h0 with rfl | rfl | rfl <;> rfl)) ?_ | ((first | ((first | refine atF (f := 77) ?_ | refine atQ (f := 77) ?_); (first | (refine cFI (hac := applyLetters_ok p s w h.1 hw hr.1 hr.2 10) (hK := ?_)) | (refine cQI (hac := applyLetters_ok p s w h.1 hw hr.1 hr.2 10) (hK := ?_)))) | ((first | refine atF (f := 149) ?_ | refine atQ (f := 149) ?_); (first | (refine cFI (hac := specIdentity_okS h 13) (hK := ?_)) | (refine cQI (hac := specIdentity_okS h 13) (hK := ?_)))) | ((first | refine atF (f := 155) ?_ | refine atQ (f := 155) ?_); (first | (refine cV (hac := equalInts_ok (comp s (evalP p.n.toNat p.m w)) (marks 0 s.length) (by omega)) (hK := ?_)) | (refine cQV (hac := equalInts_ok (comp s (evalP p.n.toNat p.m w)) (marks 0 s.length) (by omega)) (hK := ?_))))); simp (maxSteps := 1000000) (dsimp := false) (implicitDefEqProofs := false) (disch := omega) only [wrap64, go_sem]) | apply_assumption -exfalso -symm)
  all_goals (first | (show endQ _ _ _ _ _ _ _; (repeat (rename (∀ (A : Fr) (H : Hp), AWP _ _ _ _ A H → _) => hK; clear hK)); (repeat (rename (Fr → Hp → Prop) => K; clear K))) | (show Exists _; (repeat (rename (∀ (A : Fr) (H : Hp), AWP _ _ _ _ A H → _) => hK; clear hK)); (repeat (rename (Fr → Hp → Prop) => K; clear K))) | skip)
  · exact end_retV' rfl rfl rfl
noncomputable def ioP (p : Pz) (s w : List Int) : Prop := 0 ≤ dstP p s ∧ isW p.m.length w ∧ (w.length : Int) = dstP p s ∧ comp s (evalP p.n.toNat p.m w) = marks 0 s.length
noncomputable instance (p : Pz) (s w : List Int) : Decidable (ioP p s w) := by unfold ioP; infer_instance
theorem dstP_st {p : Pz} {s : List Int} (h : 0 ≤ dstP p s) : (XS p).isSome = true ∧ isSt p s ∧ s ∈ (XA p).st := by
  unfold dstP depD at h
  split at h
  · rename_i k
    split at h
    · exact ⟨k.1, k.2, by assumption⟩
    · omega
  · omega
theorem specIsOptimal_ok (p : Pz) (s w : List Int) : AC Try.prog 62 [pz p, ints s, ints w] Hp.emp (fun _ => false) (retV (.v (.bool (decide (ioP p s w))))) := by
  have hac := searchState_ok p s
  have hsc := XAu_scrub p (fun _ => true) (XS p).isSome (.int .i64 (dstP p s)) (.bool (decide (0 ≤ dstP p s)))
  unfold sFw at hac hsc
  refine ac_of_awp (N := ⟨_, fun _ => false, fun _ _ => rfl⟩) Try.func62 rfl (by kernel_rfl) Try.ntmps62 (by simp) ?_
  simp only [argsFr, List.zipIdx_cons, List.zipIdx_nil, go_sem]
  repeat' (first | (refine ob4 rfl rfl rfl rfl ?_) | refine awp_seqK fun K hK => ?_ | (refine awp_regionK 847 rfl ?_; simp only [List.map_cons, List.map_nil]; simp (maxSteps := 1000000) (dsimp := false) (implicitDefEqProofs := false) (disch := omega) only [wrap64, go_sem]) | (refine awp_regionQK 847 (by kernel_rfl) (by kernel_rfl) (by kernel_rfl) ?_; simp only [List.map_cons, List.map_nil]; simp (maxSteps := 1000000) (dsimp := false) (implicitDefEqProofs := false) (disch := omega) only [wrap64, go_sem]) | refine awp_block ?_ | (refine awp_skip ?_; simp only [go_sem]) | (refine awp_exit ?_; simp only [go_sem]) | (refine awp_ret ?_; try simp only [go_sem]) | (refine awp_condP rfl ?_; try simp only [go_sem]) | (refine BrP.mk (fun h => ?_) (fun h => ?_) <;> try simp (dsimp := false) (disch := omega) only [wrap64]) | (refine Br.mk (fun h => ?_) (fun h => ?_) <;> try simp (dsimp := false) (disch := omega) only [wrap64]) | refine Ob.mk (by first | omega | (intro _ _; rfl) | trivial | (intros; trivial) | assumption | (intro i hi; have h0 : i = 0 := (by omega); subst h0; first | rfl | trivial) | (intro i hi; have h0 : i = 0 ∨ i = 1 := (by omega); rcases h0 with rfl | rfl <;> rfl) | (intro i hi; have h0 : i = 0 ∨ i = 1 ∨ i = 2 := (by omega); rcases h0 with rfl | rfl | rfl <;> rfl)) ?_ | ((first | (refine cR (hac := hac) (hK := ?_) (hs := hsc)) | ((first | refine atF (f := 76) ?_ | refine atQ (f := 76) ?_); (first | (refine cV (hac := specIsValidWord_ok p.m.length w) (hK := ?_)) | (refine cQV (hac := specIsValidWord_ok p.m.length w) (hK := ?_)))) | ((first | refine atF (f := 112) ?_ | refine atQ (f := 112) ?_); (first | (refine cV (hac := solvesState_ok p s w (dstP_st (by assumption)).2.1 (by assumption)) (hK := ?_)) | (refine cQV (hac := solvesState_ok p s w (dstP_st (by assumption)).2.1 (by assumption)) (hK := ?_))))); simp (maxSteps := 1000000) (dsimp := false) (implicitDefEqProofs := false) (disch := omega) only [wrap64, go_sem]) | apply_assumption -exfalso -symm)
  all_goals (first | (show endQ _ _ _ _ _ _ _; (repeat (rename (∀ (A : Fr) (H : Hp), AWP _ _ _ _ A H → _) => hK; clear hK)); (repeat (rename (Fr → Hp → Prop) => K; clear K))) | (show Exists _; (repeat (rename (∀ (A : Fr) (H : Hp), AWP _ _ _ _ A H → _) => hK; clear hK)); (repeat (rename (Fr → Hp → Prop) => K; clear K))) | skip)
  · refine end_retB rfl rfl ?_
    simp only [decide_eq_true_eq]
    unfold ioP
    exact ⟨fun k => ⟨by assumption, by assumption, by omega, k⟩, fun k => k.2.2.2⟩
  · refine end_retB rfl rfl ?_
    simp only [Bool.false_eq_true, false_iff]
    exact fun k => absurd k.2.2.1 (by omega)
  · refine end_retB rfl rfl ?_
    simp only [Bool.false_eq_true, false_iff]
    exact fun k => absurd k.2.1 (by assumption)
  · refine end_retB rfl rfl ?_
    simp only [Bool.false_eq_true, false_iff]
    exact fun k => absurd k.1 (by omega)
theorem implIsOptimal_ok (p : Pz) (s w : List Int) (hs0 : p.s.size ≤ 140737488355328) : AC Try.prog 63 [pz p, ints s, ints w] Hp.emp (fun _ => false) (retV (.v (.bool (decide (ioP p s w))))) := by
  obtain ⟨hb1, hb2⟩ := XA_basic p
  have hcl := Go.Pm.comp_length s (evalP p.n.toNat p.m w)
  have hfb : isSt p s ∧ s ∈ (XA p).st → 0 ≤ fdI p (XA p) s ∧ fdI p (XA p) s < ((XA p).dp.length : Int) := fun h => by
    have := List.idxOf_lt_length_iff.2 h.2
    unfold fdI
    rw [if_pos h]; omega
  have hsl : isSt p s → (comp s (evalP p.n.toNat p.m w)).length ≤ 1048576 := fun h => by have := (isSt_rng h).1; omega
  have hds : (XS p).isSome = true → isSt p s ∧ s ∈ (XA p).st → dstP p s = (XA p).dp.getD (fdI p (XA p) s).toNat 0 ∧ 0 ≤ dstP p s := fun h k => by
    have e : dstP p s = (XA p).dp.getD (fdI p (XA p) s).toNat 0 := by
      unfold dstP depD fdI
      rw [if_pos ⟨h, k.1⟩, if_pos k.2, if_pos k]; rfl
    have h1 := (XA_whole h).2.1.le (fdI p (XA p) s).toNat (by have := hfb k; omega)
    exact ⟨e, by rw [e]; exact h1.1⟩
  refine ac_of_awp (N := ⟨_, fun _ => false, fun _ _ => rfl⟩) Try.func63 rfl (by kernel_rfl) Try.ntmps63 (by simp) ?_
  simp only [argsFr, List.zipIdx_cons, List.zipIdx_nil, go_sem]
  repeat' (first | (refine Ob.mk (by have := hfb (by assumption); omega) ?_) | ((first | refine atF (f := 106) ?_ | refine atQ (f := 106) ?_); refine callS3 (exploreState_ok p s hs0) rfl (fun hX => ?_) (fun hX => ?_) <;> simp (maxSteps := 1000000) (dsimp := false) (implicitDefEqProofs := false) (disch := omega) only [wrap64, go_sem, pM_low]) | refine awp_seqK fun K hK => ?_ | (refine awp_regionK 975 rfl ?_; simp only [List.map_cons, List.map_nil]; simp (maxSteps := 1000000) (dsimp := false) (implicitDefEqProofs := false) (disch := omega) only [wrap64, go_sem, pM_low]) | (refine awp_regionQK 975 (by kernel_rfl) (by kernel_rfl) (by kernel_rfl) ?_; simp only [List.map_cons, List.map_nil]; simp (maxSteps := 1000000) (dsimp := false) (implicitDefEqProofs := false) (disch := omega) only [wrap64, go_sem, pM_low]) | refine awp_block ?_ | (refine awp_skip ?_; simp only [go_sem, pM_low]) | (refine awp_exit ?_; simp only [go_sem, pM_low]) | (refine awp_ret ?_; try simp only [go_sem, pM_low]) | (refine awp_condP rfl ?_; try simp only [go_sem, pM_low]) | (refine BrP.mk (fun h => ?_) (fun h => ?_) <;> try simp (dsimp := false) (disch := omega) only [wrap64]) | (refine Br.mk (fun h => ?_) (fun h => ?_) <;> try simp (dsimp := false) (disch := omega) only [wrap64]) | refine Ob.mk (by first | omega | (intro _ _; rfl) | trivial | (intros; trivial) | assumption | (intro i hi; have h0 : i = 0 := (by omega); subst h0; first | rfl | trivial) | (intro i hi; have h0 : i = 0 ∨ i = 1 := (by omega); rcases h0 with rfl | rfl <;> rfl) | (intro i hi; have h0 : i = 0 ∨ i = 1 ∨ i = 2 := (by omega); rcases h0 with rfl | rfl | rfl <;> rfl)) ?_ | ((first | ((first | refine atF (f := 80) ?_ | refine atQ (f := 80) ?_); (first | (refine cV (hac := puzIsWord_ok p w) (hK := ?_)) | (refine cQV (hac := puzIsWord_ok p w) (hK := ?_)))) | ((first | refine atF (f := 113) ?_ | refine atQ (f := 113) ?_); (first | (refine cV (hac := length_ok w) (hK := ?_)) | (refine cQV (hac := length_ok w) (hK := ?_)))) | ((first | refine atF (f := 115) ?_ | refine atQ (f := 115) ?_); (first | (refine cFI (hac := puzApply_ok p s w (And.left (by assumption)) (by assumption) 39) (hK := ?_)) | (refine cQI (hac := puzApply_ok p s w (And.left (by assumption)) (by assumption) 39) (hK := ?_)))) | ((first | refine atF (f := 114) ?_ | refine atQ (f := 114) ?_); (first | (refine cV (hac := isIdentity_ok (comp s (evalP p.n.toNat p.m w)) (hsl (And.left (by assumption)))) (hK := ?_)) | (refine cQV (hac := isIdentity_ok (comp s (evalP p.n.toNat p.m w)) (hsl (And.left (by assumption)))) (hK := ?_))))); simp (maxSteps := 1000000) (dsimp := false) (implicitDefEqProofs := false) (disch := omega) only [wrap64, go_sem, pM_low]) | apply_assumption -exfalso -symm)
  all_goals (first | (show endQ _ _ _ _ _ _ _; (repeat (rename (∀ (A : Fr) (H : Hp), AWP _ _ _ _ A H → _) => hK; clear hK)); (repeat (rename (Fr → Hp → Prop) => K; clear K))) | (show Exists _; (repeat (rename (∀ (A : Fr) (H : Hp), AWP _ _ _ _ A H → _) => hK; clear hK)); (repeat (rename (Fr → Hp → Prop) => K; clear K))) | skip)
  · obtain ⟨h1, h2⟩ := hds (by assumption) (by assumption)
    refine end_retB rfl rfl ?_
    rw [hcl]
    simp only [decide_eq_true_eq]
    unfold ioP
    exact ⟨fun k => ⟨h2, by assumption, by omega, k⟩, fun k => k.2.2.2⟩
  · obtain ⟨h1, h2⟩ := hds (by assumption) (by assumption)
    refine end_retB rfl rfl ?_
    simp only [Bool.false_eq_true, false_iff]
    exact fun k => absurd k.2.2.1 (by omega)
  · refine end_retB rfl rfl ?_
    simp only [Bool.false_eq_true, false_iff]
    exact fun k => absurd k.2.1 (by assumption)
  · refine end_retB rfl rfl ?_
    simp only [Bool.false_eq_true, false_iff]
    exact fun k => absurd (dstP_st k.1).2 (by assumption)
  · refine end_retB rfl rfl ?_
    simp only [Bool.false_eq_true, false_iff]
    exact fun k => absurd (dstP_st k.1).1 (by rw [(by assumption : (XS p).isSome = false)]; exact Bool.false_ne_true)
end Go.Proofs.Ytdllbnchcjgcdaa
end
/- The letters that lead nearer, and where they lead. -/
section
namespace Go.Proofs.Ytdllbnchcjgcdaa
open Go.Av
set_option linter.unusedSimpArgs false
set_option linter.unusedVariables false
attribute [local irreducible] AWP CallG Ob Br BrP Go.Av.Sub endQ AOps OpV AC thenA blkA opsVC opVC withA withArgs opsQ opQ CallQ withA2 withArgs2
open Go.Pm (Pm comp invp idn img Gen Bf srch sorts srtN Srt slot sidx insAt)
theorem lets_neg : ∀ (m : Nat) (l : Int), l ∈ lets m → -l ∈ lets m
  | 0, l, h => by simp [lets] at h
  | m + 1, l, h => by
    unfold lets at h ⊢
    simp only [List.mem_append, List.mem_cons, List.not_mem_nil, or_false] at h ⊢
    rcases h with h | h | h
    · exact .inl (lets_neg m l h)
    · rw [h]; exact .inr (.inr rfl)
    · rw [h, Int.neg_neg]; exact .inr (.inl rfl)
theorem letP_neg {n : Nat} {g : List (List Int)} {l : Int} (hg : gensP n g) (hl : inL g l) : comp (letP g l) (letP g (-l)) = idn n := by
  have h1 := letP_pm hg hl
  unfold inL at hl
  unfold letP at h1 ⊢
  by_cases e : 0 < l
  · rw [if_pos e] at h1
    rw [if_pos e, if_neg (by omega), show - -l - 1 = l - 1 by omega]
    exact h1.comp_inv
  · have h2 : Pm n (g.getD (-l - 1).toNat []) := hg.2.2 _ (by omega)
    rw [if_neg e, if_pos (by omega)]
    exact h2.inv_comp
theorem lsP_inv {p : Pz} (hz : isPz p) : Go.Pm.InvL p.n.toNat (lsP p) := by
  intro x hx
  simp only [lsP, List.mem_map] at hx
  obtain ⟨l, hl, rfl⟩ := hx
  refine ⟨(-l, letP p.m (-l)), List.mem_map.2 ⟨-l, lets_neg _ _ hl, rfl⟩, ?_⟩
  obtain ⟨j, hj, rfl⟩ := List.getElem_of_mem hl
  have := lets_inL p.m j hj
  rw [List.getD_eq_getElem?_getD, List.getElem?_eq_getElem hj] at this
  exact letP_neg hz.gens this
theorem exH_scq (p : Pz) (B : Bf) {q : Nat → Bool} (e : q 1000003 = false) : (exH p B).scrub q = exH p B := by
  unfold exH exR
  simp only [Hp.scrub_upd, Hp.scrub_emp, Blk.scrub_cells, Blk.scrub_mp, mS_scrub_iv, scF_vecF, List.map_cons, List.map_nil]
  simp only [AV.scrub, e, Bool.false_eq_true, if_false]
section
variable {P : Program} {N : Cx} {A : Fr} {H : Hp}
/-- A call that reads an exploration, and hands back a new row d. -/
theorem callEx {f : FuncId} {args : List AV} {p : Pz} {B : Bf} {a : AV} {d : Nat} {xs : List Int} {K : AV → Fr → Hp → Prop} (hd : d < 1000000) (hH : Hp.le (exH p B) H) (hac : AC P f args (exH p B) pM (fun r H' => r = a ∧ H' = (exH p B).upd d (.cells xs.length (cM iv 0 xs)))) (hpd : N.pn d = false) (ha : ∀ q : Nat → Bool, q d = false → a.scrub q = a)
    (hK : K a (A.scrub (· == d)) ((H.scrub (· == d)).upd d (.cells xs.length (cM iv 0 xs)))) : CallG P N f args A H K := by
  have l1 : liveB ((exH p B).upd d (.cells xs.length (cM iv 0 xs))) d = true := by simp [liveB, Hp.upd]
  have l2 : liveB ((exH p B).upd d (.cells xs.length (cM iv 0 xs))) 1000003 = true := by
    unfold liveB Hp.upd
    rw [if_neg (by omega)]; rfl
  refine callPnD hH hac exH_pM ?_ hpd (ha _ (by simp [l1])) ?_ ?_ hK
  · cases e : exH p B d with
    | none => rfl
    | some C => have := exH_ge d (by rw [e]; simp); omega
  · rw [Hp.scrub_upd, exH_scq p B (by simp [l2])]; rfl
  · intro h C hC
    have h1 := congrFun (exH_scq p B (q := (· == d)) (beq_eq_false_iff_ne.2 (by omega))) h
    unfold Hp.scrub at h1
    rw [hC, Option.map_some, Option.some.injEq] at h1
    exact h1
end
theorem tup2_own {d n m : Nat} {f : Nat → AV} (q : Nat → Bool) (h : q d = false) : (AV.tup 2 (vecF [.own d 0 1 n, .list false 1 m f])).scrub q = .tup 2 (vecF [.own d 0 1 n, .list false 1 m f]) := by
  simp only [scrub_tup, scF_vecF, List.map_cons, List.map_nil, scrub_list, scrub_own, h, Bool.false_eq_true, if_false]
theorem tup2_ownV {d n : Nat} {x : Value} (q : Nat → Bool) (h : q d = false) : (AV.tup 2 (vecF [.own d 0 1 n, .v x])).scrub q = .tup 2 (vecF [.own d 0 1 n, .v x]) := by
  simp only [scrub_tup, scF_vecF, List.map_cons, List.map_nil, scrub_v, scrub_own, h, Bool.false_eq_true, if_false]
theorem closer_ok (p : Pz) (B : Bf) (k : Nat) (hz : isPz p) (hw : Bf.Whole p.n.toNat (lsP p) (idn p.n.toNat) B) (hx : B.st.length ≤ 3000) (hk : k < B.st.length) : AC Try.prog 117 [.ref 1000000 0, .v (.int .i64 ((k : Int)))] (exH p B) pM (fun r H => r = .tup 2 (vecF [.own 30 0 1 (B.clF (lets p.m.length) k (lsP p).length).length, .list false 1 (B.clS k (lsP p).length).length (cM iv 0 (B.clS k (lsP p).length))]) ∧ H = (exH p B).upd 30 (.cells (B.clF (lets p.m.length) k (lsP p).length).length (cM iv 0 (B.clF (lets p.m.length) k (lsP p).length)))) := by
  have hm := hz.1.2.1
  have hnl := hw.nl
  have hld := hw.ld
  have hlm := lsP_length p
  have hll := lets_length p.m.length
  have hrow := (hw.nx k hk).1
  have hto := fun i hi => hw.nxb (k := k) (i := i) hk hi
  clear hw
  refine ac_of_awp (N := ⟨_, pM, fun h hh => pM_low (Nat.lt_of_lt_of_le hh (by decide))⟩) Try.func117 rfl (by kernel_rfl) Try.ntmps117 (by simp) ?_
  simp only [argsFr, List.zipIdx_cons, List.zipIdx_nil, go_sem]
  unfold exH exR
  repeat' (first | refine awp_seqK fun K hK => ?_ | (refine awp_regionK 35184623749107 rfl ?_; simp only [List.map_cons, List.map_nil]; simp (maxSteps := 1000000) (dsimp := false) (implicitDefEqProofs := false) (disch := omega) only [wrap64, go_sem]) | (refine awp_regionQK 35184623749107 (by kernel_rfl) (by kernel_rfl) (by kernel_rfl) ?_; simp only [List.map_cons, List.map_nil]; simp (maxSteps := 1000000) (dsimp := false) (implicitDefEqProofs := false) (disch := omega) only [wrap64, go_sem]) | refine awp_block ?_ | (refine awp_skip ?_; simp only [go_sem]) | (refine awp_exit ?_; simp only [go_sem]) | (refine awp_ret ?_; try simp only [go_sem]) | (refine awp_condP rfl ?_; try simp only [go_sem]) | (refine BrP.mk (fun h => ?_) (fun h => ?_) <;> try simp (dsimp := false) (disch := omega) only [wrap64]) | (refine Br.mk (fun h => ?_) (fun h => ?_) <;> try simp (dsimp := false) (disch := omega) only [wrap64]) | refine Ob.mk (by first | omega | (intro _ _; rfl) | trivial | (intros; trivial) | assumption | (intro i hi; have h0 : i = 0 := (by omega); subst h0; first | rfl | trivial) | (intro i hi; have h0 : i = 0 ∨ i = 1 := (by omega); rcases h0 with rfl | rfl <;> rfl) | (intro i hi; have h0 : i = 0 ∨ i = 1 ∨ i = 2 := (by omega); rcases h0 with rfl | rfl | rfl <;> rfl)) ?_ | ((first | ((first | refine atF (f := 148) ?_ | refine atQ (f := 148) ?_); (first | (refine cFI (hac := letters_ok p.m.length (by omega) 17) (hK := ?_)) | (refine cQI (hac := letters_ok p.m.length (by omega) 17) (hK := ?_))))); simp (maxSteps := 1000000) (dsimp := false) (implicitDefEqProofs := false) (disch := omega) only [wrap64, go_sem]) | apply_assumption -exfalso -symm)
  all_goals (first | (show endQ _ _ _ _ _ _ _; (repeat (rename (∀ (A : Fr) (H : Hp), AWP _ _ _ _ A H → _) => hK; clear hK)); (repeat (rename (Fr → Hp → Prop) => K; clear K))) | (show Exists _; (repeat (rename (∀ (A : Fr) (H : Hp), AWP _ _ _ _ A H → _) => hK; clear hK)); (repeat (rename (Fr → Hp → Prop) => K; clear K))) | skip)
  have f0 : B.clF (lets p.m.length) k 0 = [] := rfl
  have s0 : B.clS k 0 = [] := rfl
  refine awp_loop (ι := Nat) (fun i => [(26, .v (.int .i64 (i))), (25, .v (.int .i64 ((B.nx.getD k []).length))), (24, .list false 1 (B.nx.getD k []).length (cM iv 0 (B.nx.getD k []))), (8, .list false 1 (lets p.m.length).length (cM iv 0 (lets p.m.length))), (7, .own 31 0 1 (B.clS k i).length), (6, .own 30 0 1 (B.clF (lets p.m.length) k i).length), (1, .v (.int .i64 ((k : Int)))), (0, .ref 1000000 0)]) (fun i => ((exH p B).upd 30 (.cells (B.clF (lets p.m.length) k i).length (cM iv 0 (B.clF (lets p.m.length) k i)))).upd 31 (.cells (B.clS k i).length (cM iv 0 (B.clS k i)))) (fun i => i ≤ (lsP p).length) (fun i => (lsP p).length - i) 0 (Nat.zero_le _) (Sub.trans (Sub.nil (i := 6) 30 1 (cM iv 0 []) rfl rfl) (Sub.trans (Sub.nil (i := 7) 31 1 (cM iv 0 []) rfl rfl) (Sub.toL (by rw [f0, s0]; exact (by simp only [go_sem] <;> first | trivial | (simp only [Option.some.injEq, AV.v.injEq, AV.own.injEq, AV.list.injEq, Value.int.injEq, Value.bool.injEq, true_and, and_true]; first | omega | (simp; done)) | (simp; done) | (simp; omega))) (by rw [f0, s0]; unfold exH exR; simp only [Hp.scrub_upd, Hp.scrub_emp, Blk.scrub_mp, mS_scrub_iv, Blk.scrub_cells, scF_vecF, List.map_cons, List.map_nil, AV.scrub, Nat.reduceBEq, Bool.false_eq_true, if_false]; repeat' (first | exact Hp.le_emp _ | refine Hp.le_upd rfl ?_))))) ?_
  intro i hi
  have hti := hto i
  have hf := B.clF_succ (lets p.m.length) k i
  have hs := B.clS_succ k i
  have hfl := B.clF_le (lets p.m.length) k i
  have hsl := B.clS_len (lets p.m.length) k i
  unfold exH exR
  repeat' (first | refine awp_seqK fun K hK => ?_ | (refine awp_regionK 35184623749107 rfl ?_; simp only [List.map_cons, List.map_nil]; simp (maxSteps := 1000000) (dsimp := false) (implicitDefEqProofs := false) (disch := omega) only [wrap64, go_sem]) | (refine awp_regionQK 35184623749107 (by kernel_rfl) (by kernel_rfl) (by kernel_rfl) ?_; simp only [List.map_cons, List.map_nil]; simp (maxSteps := 1000000) (dsimp := false) (implicitDefEqProofs := false) (disch := omega) only [wrap64, go_sem]) | refine awp_block ?_ | (refine awp_skip ?_; simp only [go_sem]) | (refine awp_exit ?_; simp only [go_sem]) | (refine awp_ret ?_; try simp only [go_sem]) | (refine awp_condP rfl ?_; try simp only [go_sem]) | (refine BrP.mk (fun h => ?_) (fun h => ?_) <;> try simp (dsimp := false) (disch := omega) only [wrap64]) | (refine Br.mk (fun h => ?_) (fun h => ?_) <;> try simp (dsimp := false) (disch := omega) only [wrap64]) | refine Ob.mk (by first | omega | (intro _ _; rfl) | trivial | (intros; trivial) | assumption | (intro i hi; have h0 : i = 0 := (by omega); subst h0; first | rfl | trivial) | (intro i hi; have h0 : i = 0 ∨ i = 1 := (by omega); rcases h0 with rfl | rfl <;> rfl) | (intro i hi; have h0 : i = 0 ∨ i = 1 ∨ i = 2 := (by omega); rcases h0 with rfl | rfl | rfl <;> rfl)) ?_ | apply_assumption -exfalso -symm)
  all_goals (first | (show endQ _ _ _ _ _ _ _; (repeat (rename (∀ (A : Fr) (H : Hp), AWP _ _ _ _ A H → _) => hK; clear hK)); (repeat (rename (Fr → Hp → Prop) => K; clear K))) | (show Exists _; (repeat (rename (∀ (A : Fr) (H : Hp), AWP _ _ _ _ A H → _) => hK; clear hK)); (repeat (rename (Fr → Hp → Prop) => K; clear K))) | skip)
  · have hyd : B.dn k i = true := decide_eq_true (by assumption)
    rw [if_pos hyd] at hf hs
    refine ⟨i + 1, by omega, by omega, ?_⟩
    rw [hf, hs]
    exact Sub.toL (by simp only [go_sem] <;> first | trivial | (simp only [Option.some.injEq, AV.v.injEq, AV.own.injEq, AV.list.injEq, Value.int.injEq, Value.bool.injEq, true_and, and_true]; first | omega | (simp; done)) | (simp; done) | (simp; omega)) (by (repeat' (first | exact Hp.le_emp _ | exact Hp.le_refl _ | refine Hp.le_upd ?_ ?_)); all_goals (first | rfl | (simp only [go_sem]; first | rfl | (refine cellsE ?_ ?_ <;> (simp)) | (simp))))
  · have hnd : ¬ B.dn k i = true := fun h => absurd (of_decide_eq_true h) (by assumption)
    rw [if_neg hnd, List.append_nil] at hf hs
    refine ⟨i + 1, by omega, by omega, ?_⟩
    rw [hf, hs]
    exact Sub.toL (by simp only [go_sem] <;> first | trivial | (simp only [Option.some.injEq, AV.v.injEq, AV.own.injEq, AV.list.injEq, Value.int.injEq, Value.bool.injEq, true_and, and_true]; first | omega | (simp; done)) | (simp; done) | (simp; omega)) (by (repeat' (first | exact Hp.le_emp _ | exact Hp.le_refl _ | refine Hp.le_upd ?_ ?_)); all_goals (first | rfl | (simp only [go_sem]; first | rfl | (refine cellsE ?_ ?_ <;> (simp)) | (simp))))
  · have e : i = (lsP p).length := by omega
    subst e
    refine end_tup2 rfl (by decide) (Sub.fits (fun x => x = 31) (Fr.fit_get _ _ (Fr.fit_cons rfl (.refl _) (Fr.fit_cons rfl ?_ (Fr.fit_nil _)))) ?_) ⟨rfl, rfl⟩
    · exact fits_I rfl rfl rfl rfl
    · exact leF_upd rfl (.refl _ _ _) (leF_upd rfl (.refl _ _ _) (leF_upd rfl (.refl _ _ _) leF_emp (by omega)) (by omega)) (by omega)
end Go.Proofs.Ytdllbnchcjgcdaa
end
/- The first letters of shortest words. -/
section
namespace Go.Proofs.Ytdllbnchcjgcdaa
open Go.Av
set_option linter.unusedSimpArgs false
set_option linter.unusedVariables false
attribute [local irreducible] AWP CallG Ob Br BrP Go.Av.Sub endQ AOps OpV AC thenA blkA opsVC opVC withA withArgs opsQ opQ CallQ withA2 withArgs2
open Go.Pm (Pm comp invp idn img Gen Bf srch sorts srtN Srt slot sidx insAt)
theorem dst_eq {p : Pz} {s : List Int} (h : 0 ≤ dstP p s) : dstP p s = (XA p).dp.getD ((XA p).st.idxOf s) 0 := by
  obtain ⟨h1, h2, h3⟩ := dstP_st h
  unfold dstP depD
  rw [if_pos ⟨h1, h2⟩, if_pos h3]
theorem dst_no {p : Pz} {s : List Int} (h : ¬ 0 ≤ dstP p s) (h1 : (XS p).isSome = true) : ¬ (isSt p s ∧ s ∈ (XA p).st) := fun k => by
  refine h ?_
  have e : dstP p s = (XA p).dp.getD ((XA p).st.idxOf s) 0 := by
    unfold dstP depD
    rw [if_pos ⟨h1, k.1⟩, if_pos k.2]
  rw [e]
  exact ((XA_whole h1).2.1.le _ (List.idxOf_lt_length_iff.2 k.2)).1
/-- A neighbor of a row of the search. -/
def nbP (p : Pz) (s : List Int) (i : Nat) : List Int := comp s (letP p.m ((lets p.m.length).getD i 0))
theorem nb_st {p : Pz} (h : (XS p).isSome = true) {s : List Int} (hs : s ∈ (XA p).st) {i : Nat} (hi : i < (lsP p).length) : nbP p s i ∈ (XA p).st := by
  obtain ⟨hz, hw, hx⟩ := XA_whole h
  have := hw.cl s hs _ (Go.Pm.mem_getD_of_lt (0, []) hi)
  rw [lsP_length] at hi
  rwa [lsP_get p i hi] at this
theorem nb_len {p : Pz} {s : List Int} (i : Nat) : (nbP p s i).length = s.length := Go.Pm.comp_length _ _
theorem nb_nx {p : Pz} (h : (XS p).isSome = true) {s : List Int} (hs : s ∈ (XA p).st) {i : Nat} (hi : i < (lsP p).length) : ((XA p).nx.getD ((XA p).st.idxOf s) []).getD i 0 = (((XA p).st.idxOf (nbP p s i) : Nat) : Int) := by
  obtain ⟨hz, hw, hx⟩ := XA_whole h
  have h1 := (hw.nx _ (List.idxOf_lt_length_iff.2 hs)).2 i hi
  rw [lsP_length] at hi
  rw [h1, lsP_get p i hi, Go.Pm.getD_idx hs]; rfl
theorem nb_dn {p : Pz} (h : (XS p).isSome = true) {s : List Int} (hs : s ∈ (XA p).st) {i : Nat} (hi : i < (lsP p).length) : (XA p).dn ((XA p).st.idxOf s) i = true ↔ depD (XA p) (nbP p s i) = (XA p).dp.getD ((XA p).st.idxOf s) 0 - 1 := by
  obtain ⟨hz, hw, hx⟩ := XA_whole h
  rw [hw.dn_iff (lsP_pm hz) (lsP_inv hz) (List.idxOf_lt_length_iff.2 hs) hi]
  have h1 := nb_st h hs hi
  unfold depD
  rw [if_pos h1, Go.Pm.getD_idx hs]
  rw [lsP_length] at hi
  rw [lsP_get p i hi]; rfl
noncomputable def oflP (p : Pz) (s : List Int) : List Int := if 0 ≤ dstP p s then (XA p).clF (lets p.m.length) ((XA p).st.idxOf s) (lsP p).length else []
theorem specOptimalFirstLetters_ok (p : Pz) (s : List Int) (d : Nat) : AC Try.prog 68 [pz p, ints s] Hp.emp (fun _ => false) (retI d (oflP p s)) := by
  have hac := searchState_ok p s
  have hsc := XAu_scrub p (fun _ => true) (XS p).isSome (.int .i64 (dstP p s)) (.bool (decide (0 ≤ dstP p s)))
  have hm := fun h : 0 ≤ dstP p s => (XA_whole (dstP_st h).1).1.1.2.1
  have hlm := lsP_length p
  have hll := lets_length p.m.length
  unfold sFw at hac hsc
  refine ac_of_awp (N := ⟨_, fun _ => false, fun _ _ => rfl⟩) Try.func68 rfl (by kernel_rfl) Try.ntmps68 (by simp) ?_
  simp only [argsFr, List.zipIdx_cons, List.zipIdx_nil, go_sem]
  repeat' (first | (refine ob4 rfl rfl rfl rfl ?_) | refine awp_seqK fun K hK => ?_ | (refine awp_regionK 2199158523895 rfl ?_; simp only [List.map_cons, List.map_nil]; simp (maxSteps := 1000000) (dsimp := false) (implicitDefEqProofs := false) (disch := omega) only [wrap64, go_sem]) | (refine awp_regionQK 2199158523895 (by kernel_rfl) (by kernel_rfl) (by kernel_rfl) ?_; simp only [List.map_cons, List.map_nil]; simp (maxSteps := 1000000) (dsimp := false) (implicitDefEqProofs := false) (disch := omega) only [wrap64, go_sem]) | refine awp_block ?_ | (refine awp_skip ?_; simp only [go_sem]) | (refine awp_exit ?_; simp only [go_sem]) | (refine awp_ret ?_; try simp only [go_sem]) | (refine awp_condP rfl ?_; try simp only [go_sem]) | (refine BrP.mk (fun h => ?_) (fun h => ?_) <;> try simp (dsimp := false) (disch := omega) only [wrap64]) | (refine Br.mk (fun h => ?_) (fun h => ?_) <;> try simp (dsimp := false) (disch := omega) only [wrap64]) | refine Ob.mk (by first | omega | (intro _ _; rfl) | trivial | (intros; trivial) | assumption | (intro i hi; have h0 : i = 0 := (by omega); subst h0; first | rfl | trivial) | (intro i hi; have h0 : i = 0 ∨ i = 1 := (by omega); rcases h0 with rfl | rfl <;> rfl) | (intro i hi; have h0 : i = 0 ∨ i = 1 ∨ i = 2 := (by omega); rcases h0 with rfl | rfl | rfl <;> rfl)) ?_ | ((first | (refine cR (hac := hac) (hK := ?_) (hs := hsc)) | ((first | refine atF (f := 109) ?_ | refine atQ (f := 109) ?_); (first | (refine cFI (hac := lettersOf_ok p (by have := hm (by assumption); omega) 23) (hK := ?_)) | (refine cQI (hac := lettersOf_ok p (by have := hm (by assumption); omega) 23) (hK := ?_))))); simp (maxSteps := 1000000) (dsimp := false) (implicitDefEqProofs := false) (disch := omega) only [wrap64, go_sem]) | apply_assumption -exfalso -symm)
  all_goals (first | (show endQ _ _ _ _ _ _ _; (repeat (rename (∀ (A : Fr) (H : Hp), AWP _ _ _ _ A H → _) => hK; clear hK)); (repeat (rename (Fr → Hp → Prop) => K; clear K))) | (show Exists _; (repeat (rename (∀ (A : Fr) (H : Hp), AWP _ _ _ _ A H → _) => hK; clear hK)); (repeat (rename (Fr → Hp → Prop) => K; clear K))) | skip)
  · obtain ⟨h1, h2, h3⟩ := dstP_st (by assumption)
    have hd := dst_eq (by assumption)
    have hz := h2.1
    have hm := hz.1.2.1
    have hr := isSt_rng h2
    obtain ⟨k, hk⟩ : ∃ k, k = (XA p).st.idxOf s := ⟨_, rfl⟩
    have hdb := (XA_whole h1).2.1.le k (by rw [hk]; exact List.idxOf_lt_length_iff.2 h3)
    have hxx := (XA_whole h1).2.2
    have hkl : k < (XA p).st.length := by rw [hk]; exact List.idxOf_lt_length_iff.2 h3
    rw [← hk] at hd
    have hdn := fun {i} (hi : i < (lsP p).length) => nb_dn h1 h3 hi
    rw [← hk, ← hd] at hdn
    have he : oflP p s = (XA p).clF (lets p.m.length) k (lsP p).length := by rw [hk]; exact if_pos (by assumption)
    have hdo : ∀ i, AC Try.prog 101 [sFw (XA p).st (XA p).dp (sorts (XA p).st) true, ints (nbP p s i)] Hp.emp (fun _ => false) (retV (.v (.int .i64 (depD (XA p) (nbP p s i))))) := fun i => depP_ok h1 (by rw [nb_len]; exact h2.len)
    unfold sFw at hdo
    clear hac hsc
    refine awp_loop (ι := Nat) (fun i => [(10, .v (.int .i64 (i))), (9, .list false 1 (lets p.m.length).length (cM iv 0 (lets p.m.length))), (7, .v (.int .i64 (dstP p s))), (6, .ref 6 0), (5, .own 11 0 1 ((XA p).clF (lets p.m.length) k i).length), (2, .ref 2 0), (1, .list false 1 (s).length (cM iv 0 (s)))]) (fun i => (((Hp.emp.upd 2 (.cells 3 (vecF [.v (.int .i64 (p.n)), .v (.string (p.s)), .list false 1 (p.m).length (cM ints [] (p.m))]))).upd 6 (.cells 4 (vecF [.list false 1 ((XA p).st).length (cM ints [] ((XA p).st)), .list false 1 ((XA p).dp).length (cM iv 0 ((XA p).dp)), .list false 1 (sorts (XA p).st).length (cM iv 0 (sorts (XA p).st)), .v (.bool (true))]))).upd 11 (.cells ((XA p).clF (lets p.m.length) k i).length (cM iv 0 ((XA p).clF (lets p.m.length) k i))))) (fun i => i ≤ (lsP p).length) (fun i => (lsP p).length - i) 0 (Nat.zero_le _) (Sub.toL (by simp only [go_sem] <;> first | trivial | (simp only [Option.some.injEq, AV.v.injEq, AV.own.injEq, AV.list.injEq, Value.int.injEq, Value.bool.injEq, true_and, and_true]; first | omega | (simp; done)) | (simp; done) | (simp; omega)) (by rw [← h1]; repeat' (first | exact Hp.le_emp _ | refine Hp.le_upd rfl ?_))) ?_
    intro i hi
    have hf := (XA p).clF_succ (lets p.m.length) k i
    have hfl := (XA p).clF_le (lets p.m.length) k i
    have hl1 := lets_inL p.m i
    have hdi := hdo i
    have hdn := hdn (i := i)
    have hnb : comp s (letP p.m ((lets p.m.length).getD i 0)) = nbP p s i := rfl
    repeat' (first | (refine ob4 rfl rfl rfl rfl ?_) | refine awp_seqK fun K hK => ?_ | (refine awp_regionK 2199158523895 rfl ?_; simp only [List.map_cons, List.map_nil]; simp (maxSteps := 1000000) (dsimp := false) (implicitDefEqProofs := false) (disch := omega) only [wrap64, go_sem, hnb]) | (refine awp_regionQK 2199158523895 (by kernel_rfl) (by kernel_rfl) (by kernel_rfl) ?_; simp only [List.map_cons, List.map_nil]; simp (maxSteps := 1000000) (dsimp := false) (implicitDefEqProofs := false) (disch := omega) only [wrap64, go_sem, hnb]) | refine awp_block ?_ | (refine awp_skip ?_; simp only [go_sem, hnb]) | (refine awp_exit ?_; simp only [go_sem, hnb]) | (refine awp_ret ?_; try simp only [go_sem, hnb]) | (refine awp_condP rfl ?_; try simp only [go_sem, hnb]) | (refine BrP.mk (fun h => ?_) (fun h => ?_) <;> try simp (dsimp := false) (disch := omega) only [wrap64]) | (refine Br.mk (fun h => ?_) (fun h => ?_) <;> try simp (dsimp := false) (disch := omega) only [wrap64]) | refine Ob.mk (by first | omega | (intro _ _; rfl) | trivial | (intros; trivial) | assumption | (intro i hi; have h0 : i = 0 := (by omega); subst h0; first | rfl | trivial) | (intro i hi; have h0 : i = 0 ∨ i = 1 := (by omega); rcases h0 with rfl | rfl <;> rfl) | (intro i hi; have h0 : i = 0 ∨ i = 1 ∨ i = 2 := (by omega); rcases h0 with rfl | rfl | rfl <;> rfl)) ?_ | ((first | ((first | refine atF (f := 110) ?_ | refine atQ (f := 110) ?_); (first | (refine cFI (hac := applyLetter_ok p s ((lets p.m.length).getD i 0) hz (hl1 (by omega)) (by omega) (fun j hj => by have := hr.2 j hj; omega) 25) (hK := ?_)) | (refine cQI (hac := applyLetter_ok p s ((lets p.m.length).getD i 0) hz (hl1 (by omega)) (by omega) (fun j hj => by have := hr.2 j hj; omega) 25) (hK := ?_)))) | (refine cV (hac := hdi) (hK := ?_)) | (refine cQV (hac := hdi) (hK := ?_))); simp (maxSteps := 1000000) (dsimp := false) (implicitDefEqProofs := false) (disch := omega) only [wrap64, go_sem, hnb]) | apply_assumption -exfalso -symm)
    all_goals (first | (show endQ _ _ _ _ _ _ _; (repeat (rename (∀ (A : Fr) (H : Hp), AWP _ _ _ _ A H → _) => hK; clear hK)); (repeat (rename (Fr → Hp → Prop) => K; clear K))) | (show Exists _; (repeat (rename (∀ (A : Fr) (H : Hp), AWP _ _ _ _ A H → _) => hK; clear hK)); (repeat (rename (Fr → Hp → Prop) => K; clear K))) | skip)
    · rw [if_pos ((hdn (by omega)).2 (by assumption))] at hf
      refine ⟨i + 1, by omega, by omega, ?_⟩
      rw [hf]
      exact Sub.toL (by simp only [go_sem] <;> first | trivial | (simp only [Option.some.injEq, AV.v.injEq, AV.own.injEq, AV.list.injEq, Value.int.injEq, Value.bool.injEq, true_and, and_true]; first | omega | (simp; done)) | (simp; done) | (simp; omega)) (by (repeat' (first | exact Hp.le_emp _ | exact Hp.le_refl _ | refine Hp.le_upd ?_ ?_)); all_goals (first | rfl | (simp only [go_sem]; first | rfl | (refine cellsE ?_ ?_ <;> (simp)) | (simp))))
    · rw [if_neg (fun h => absurd ((hdn (by omega)).1 h) (by assumption)), List.append_nil] at hf
      refine ⟨i + 1, by omega, by omega, ?_⟩
      rw [hf]
      exact Sub.toL (by simp only [go_sem] <;> first | trivial | (simp only [Option.some.injEq, AV.v.injEq, AV.own.injEq, AV.list.injEq, Value.int.injEq, Value.bool.injEq, true_and, and_true]; first | omega | (simp; done)) | (simp; done) | (simp; omega)) (by (repeat' (first | exact Hp.le_emp _ | exact Hp.le_refl _ | refine Hp.le_upd ?_ ?_)); all_goals (first | rfl | (simp only [go_sem]; first | rfl | (refine cellsE ?_ ?_ <;> (simp)) | (simp))))
    · have e : i = (lsP p).length := by omega
      subst e
      rw [← he]
      exact end_retI' rfl rfl rfl rfl rfl rfl
  · have e : oflP p s = [] := if_neg (by assumption)
    rw [e]
    exact end_retI' rfl rfl rfl rfl rfl rfl
theorem fdI_yes {p : Pz} {B : Bf} {s : List Int} (h : isSt p s ∧ s ∈ B.st) : fdI p B s = ((B.st.idxOf s : Nat) : Int) := if_pos h
theorem dst_yes {p : Pz} {s : List Int} (h1 : (XS p).isSome = true) (h : isSt p s ∧ s ∈ (XA p).st) : 0 ≤ dstP p s := Classical.byContradiction fun k => dst_no k h1 h
theorem implOptimalFirstLetters_ok (p : Pz) (s : List Int) (hs0 : p.s.size ≤ 140737488355328) (d : Nat) : AC Try.prog 69 [pz p, ints s] Hp.emp (fun _ => false) (retI d (oflP p s)) := by
  have hc := fun (h : (XS p).isSome = true) (k : isSt p s ∧ s ∈ (XA p).st) => closer_ok p (XA p) _ (XA_whole h).1 (XA_whole h).2.1 (XA_whole h).2.2 (List.idxOf_lt_length_iff.2 k.2)
  have hfd := fun k : isSt p s ∧ s ∈ (XA p).st => fdI_yes k
  refine ac_of_awp (N := ⟨_, fun _ => false, fun _ _ => rfl⟩) Try.func69 rfl (by kernel_rfl) Try.ntmps69 (by simp) ?_
  simp only [argsFr, List.zipIdx_cons, List.zipIdx_nil, go_sem]
  repeat' (first | ((first | refine atF (f := 106) ?_ | refine atQ (f := 106) ?_); refine callS3 (exploreState_ok p s hs0) rfl (fun hX => ?_) (fun hX => ?_) <;> simp (maxSteps := 1000000) (dsimp := false) (implicitDefEqProofs := false) (disch := omega) only [wrap64, go_sem, pM_low]) | refine awp_seqK fun K hK => ?_ | (refine awp_regionK 262647 rfl ?_; simp only [List.map_cons, List.map_nil]; simp (maxSteps := 1000000) (dsimp := false) (implicitDefEqProofs := false) (disch := omega) only [wrap64, go_sem, pM_low]) | (refine awp_regionQK 262647 (by kernel_rfl) (by kernel_rfl) (by kernel_rfl) ?_; simp only [List.map_cons, List.map_nil]; simp (maxSteps := 1000000) (dsimp := false) (implicitDefEqProofs := false) (disch := omega) only [wrap64, go_sem, pM_low]) | refine awp_block ?_ | (refine awp_skip ?_; simp only [go_sem, pM_low]) | (refine awp_exit ?_; simp only [go_sem, pM_low]) | (refine awp_ret ?_; try simp only [go_sem, pM_low]) | (refine awp_condP rfl ?_; try simp only [go_sem, pM_low]) | (refine BrP.mk (fun h => ?_) (fun h => ?_) <;> try simp (dsimp := false) (disch := omega) only [wrap64]) | (refine Br.mk (fun h => ?_) (fun h => ?_) <;> try simp (dsimp := false) (disch := omega) only [wrap64]) | refine Ob.mk (by first | omega | (intro _ _; rfl) | trivial | (intros; trivial) | assumption | (intro i hi; have h0 : i = 0 := (by omega); subst h0; first | rfl | trivial) | (intro i hi; have h0 : i = 0 ∨ i = 1 := (by omega); rcases h0 with rfl | rfl <;> rfl) | (intro i hi; have h0 : i = 0 ∨ i = 1 ∨ i = 2 := (by omega); rcases h0 with rfl | rfl | rfl <;> rfl)) ?_ | ((first | ((first | refine atF (f := 117) ?_ | refine atQ (f := 117) ?_); (rw [hfd (by assumption)]; refine callEx (by omega) (by unfold exH exR; repeat' (first | exact Hp.le_emp _ | refine Hp.le_upd rfl ?_)) (hc (by assumption) (by assumption)) rfl (fun q h => tup2_own q h) ?_))); simp (maxSteps := 1000000) (dsimp := false) (implicitDefEqProofs := false) (disch := omega) only [wrap64, go_sem, pM_low]) | apply_assumption -exfalso -symm)
  all_goals (first | (show endQ _ _ _ _ _ _ _; (repeat (rename (∀ (A : Fr) (H : Hp), AWP _ _ _ _ A H → _) => hK; clear hK)); (repeat (rename (Fr → Hp → Prop) => K; clear K))) | (show Exists _; (repeat (rename (∀ (A : Fr) (H : Hp), AWP _ _ _ _ A H → _) => hK; clear hK)); (repeat (rename (Fr → Hp → Prop) => K; clear K))) | skip)
  · refine end_retI' rfl rfl rfl ?_ rfl rfl
    exact (if_pos (dst_yes (by assumption) (by assumption))).symm
  · refine end_retI_nil' rfl rfl ?_ rfl
    exact (if_neg (fun k => absurd (dstP_st k).2 (by assumption))).symm
  · refine end_retI_nil' rfl rfl ?_ rfl
    exact (if_neg (fun k => absurd (dstP_st k).1 (by rw [(by assumption : (XS p).isSome = false)]; exact Bool.false_ne_true))).symm
theorem oflP_len (p : Pz) (s : List Int) : (oflP p s).length ≤ 16 := by
  unfold oflP
  split
  · rename_i h
    have h1 := (XA p).clF_le (lets p.m.length) ((XA p).st.idxOf s) (lsP p).length
    have h2 := (dstP_st h).2.1.1.1.2.1
    have h3 := lsP_length p
    omega
  · simp
end Go.Proofs.Ytdllbnchcjgcdaa
end
