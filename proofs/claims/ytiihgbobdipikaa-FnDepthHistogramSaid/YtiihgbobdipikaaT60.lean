import Derived.Test.YtiihgbobdipikaaT59
import Derived.Test.YtiihgbobdipikaaJ7
/- The program's answers that hand out states. -/
namespace Go.Proofs.Ytiihgbobdipikaa
open Go.Av
set_option linter.unusedSimpArgs false
set_option linter.unusedVariables false
attribute [local irreducible] AWP CallG Ob Br BrP Go.Av.Sub endQ AOps OpV AC thenA blkA opsVC opVC withA withArgs opsQ opQ CallQ withA2 withArgs2
open Go.Pm (Pm comp invp idn img Gen Bf srch sorts srtN Srt slot sidx insAt)
/-- Names that explore hands back. -/
def pO (h : Nat) : Bool := famB 1000001 h || h == 1000000 || h == 1000002
theorem pO_low {h : Nat} (hh : h < 1000000) : pO h = false := by
  unfold pO
  rw [famB_lit (by omega), beq_eq_false_iff_ne.2 (show h ≠ 1000001 by omega), beq_eq_false_iff_ne.2 (show h ≠ 1000000 by omega), beq_eq_false_iff_ne.2 (show h ≠ 1000002 by omega)]; rfl
/-- The struct that explore leaves. -/
def exC (p : Pz) (X : Bf) : Nat → AV := vecF [.v (.int .i64 (p.n)), .v (.string (p.s)), .list false 1 (p.m).length (cM ints [] (p.m)), .own 1000001 0 1 X.st.length, .own 1000002 0 1 X.dp.length, .dead, .dead, .dead, .dead]
theorem exO_some {p : Pz} {X : Bf} {h : Nat} {B : Blk} (k : exO p X h = some B) : pO h = true := by
  unfold exO at k
  cases e3 : RR 1000001 X.st h with
  | some C =>
    have e4 : RR 1000001 X.st h ≠ none := by rw [e3]; simp
    unfold pO; rw [PR_live e4]; rfl
  | none =>
    rw [Hp.add_none e3] at k
    unfold Hp.upd at k
    split at k
    · rename_i e; subst e; rfl
    · split at k
      · rename_i e; subst e; rfl
      · cases k
theorem le_addG {F H' H : Hp} (h : Hp.le H' H) : Hp.le (F.add H') (F.add H) := fun g B hB => by
  unfold Hp.add at hB ⊢
  cases e : F g with
  | some C => rw [e] at hB; exact hB
  | none => rw [e] at hB; exact h g B hB
section
variable {P : Program} {N : Cx} {A : Fr} {H : Hp}
/-- A call of explore, its states and depths ours. -/
theorem callO {f : FuncId} {args : List AV} {p : Pz} {pn : Nat → Bool} {K : AV → Fr → Hp → Prop} (hac : AC P f args Hp.emp pn (postO p)) (hpn : N.pn = fun _ => false)
    (h1 : (XS p).isSome = true → K (.tup 2 (vecF [.ref 1000000 0, .v (.bool (true))])) (A.scrub pO) ((RR 1000001 (XA p).st).add (((H.scrub pO).upd 1000000 (.cells 9 (vecF [.v (.int .i64 (p.n)), .v (.string (p.s)), .list false 1 (p.m).length (cM ints [] (p.m)), .own 1000001 0 1 (XA p).st.length, .own 1000002 0 1 (XA p).dp.length, .dead, .dead, .dead, .dead]))).upd 1000002 (.cells (XA p).dp.length (cM iv 0 (XA p).dp)))))
    (h2 : (XS p).isSome = false → K (.tup 2 (vecF [.v (.pointer none), .v (.bool (false))])) (A.scrub pO) (H.scrub pO)) : CallG P N f args A H K := by
  refine callG_of hac pO false (by simp [Hp.emp]) (FitsL.refl _) (fun _ => rfl) (by simp [Hp.emp]) (by simp [hpn]) ?_
  intro r H' hp
  obtain ⟨hb1, hb2⟩ := XA_basic p
  rcases hp with ⟨hs, rfl, rfl⟩ | ⟨hs, rfl, rfl⟩
  · have l0 : liveB (exO p (XA p)) 1000000 = true := by unfold liveB exO; rw [add_low (by rw [FB_eq]; omega) (by omega)]; rfl
    have l1 : liveB (exO p (XA p)) 1000001 = true := by unfold liveB exO; rw [add_self]; rfl
    have l2 : liveB (exO p (XA p)) 1000002 = true := by unfold liveB exO; rw [add_low (by rw [FB_eq]; omega) (by omega)]; rfl
    have ls : ∀ i, i < (XA p).st.length → liveB (exO p (XA p)) (sub 1000001 i) = true := fun i hi => by
      unfold liveB exO; rw [add_sub (by rw [FB_eq]; omega) hi (by rw [FB_eq]; omega)]; rfl
    refine ⟨fun h h1 _ => ?_, by simp, ?_⟩
    · obtain ⟨B, hB⟩ := Option.ne_none_iff_exists'.1 h1
      exact exO_some hB
    generalize hq : (fun h => !liveB (exO p (XA p)) h) = q
    have q0 : q 1000000 = false := by rw [← hq]; simp [l0]
    have q1 : q 1000001 = false := by rw [← hq]; simp [l1]
    have q2 : q 1000002 = false := by rw [← hq]; simp [l2]
    have qs : ∀ i, i < (XA p).st.length → q (sub 1000001 i) = false := fun i hi => by rw [← hq]; simp [ls i hi]
    have e1 : (exO p (XA p)).scrub q = exO p (XA p) := by
      funext h
      unfold exO Hp.scrub Hp.add
      cases e3 : RR 1000001 (XA p).st h with
      | some B =>
        rcases RR_cases e3 with ⟨_, rfl⟩ | ⟨i, hi, _, rfl⟩
        · simp only [Option.map_some, Option.some.injEq, Blk.scrub_cells]
          congr 1
          funext i
          exact mixF_plain_scrub qs i
        · rfl
      | none =>
        unfold Hp.upd
        by_cases e2 : h = 1000002
        · rw [if_pos e2]; rfl
        · rw [if_neg e2]
          by_cases e4 : h = 1000000
          · rw [if_pos e4]
            simp only [Option.map_some, Option.some.injEq, Blk.scrub_cells, scF_vecF, List.map_cons, List.map_nil, AV.scrub, q1, q2, Bool.false_eq_true, if_false]
          · rw [if_neg e4]; rfl
    have e2 : Hp.over (exO p (XA p)) (H.scrub pO) Hp.emp = (RR 1000001 (XA p).st).add (((H.scrub pO).upd 1000000 (.cells 9 (exC p (XA p)))).upd 1000002 (.cells (XA p).dp.length (cM iv 0 (XA p).dp))) := by
      funext h
      unfold Hp.over exO Hp.add
      cases e3 : RR 1000001 (XA p).st h with
      | some B => rfl
      | none =>
        unfold Hp.upd
        by_cases e2 : h = 1000002
        · rw [if_pos e2, if_pos e2]
        · rw [if_neg e2, if_neg e2]
          by_cases e4 : h = 1000000
          · rw [if_pos e4, if_pos e4]; rfl
          · rw [if_neg e4, if_neg e4]; simp [Hp.emp]
    rw [e1, e2]
    rw [scrub_tup, scF_vecF]
    simp only [List.map_cons, List.map_nil, AV.scrub, q0, Bool.false_eq_true, if_false]
    exact h1 hs
  · refine ⟨by simp [Hp.emp], by simp, ?_⟩
    have e2 : Hp.over (Hp.emp.scrub fun h => !liveB Hp.emp h) (H.scrub pO) Hp.emp = H.scrub pO := by
      funext h
      unfold Hp.over
      simp [Hp.emp, Hp.scrub]
    rw [e2]
    simp only [scrub_tup, scF_vecF, List.map_cons, List.map_nil, scrub_v]
    exact h2 hs
end
theorem implReachableStates_ok (p : Pz) (hs0 : p.s.size ≤ 140737488355328) : AC Try.prog 24 [pz p] Hp.emp (fun _ => false) (retIIB 1000001 1000002 (reaS p) (reaD p) (XS p).isSome) := by
  have hy1 : (XS p).isSome = true → reaS p = (XA p).st ∧ reaD p = (XA p).dp := fun h => ⟨if_pos h, if_pos h⟩
  have hn1 : (XS p).isSome = false → reaS p = [] ∧ reaD p = [] := fun h => ⟨if_neg (by rw [h]; exact Bool.false_ne_true), if_neg (by rw [h]; exact Bool.false_ne_true)⟩
  refine ac_of_awp (N := ⟨_, fun _ => false, fun _ _ => rfl⟩) Try.func24 rfl (by kernel_rfl) Try.ntmps24 (by simp) ?_
  simp only [argsFr, List.zipIdx_cons, List.zipIdx_nil, go_sem]
  repeat' (first | ((first | refine atF (f := 64) ?_ | refine atQ (f := 64) ?_); refine callO (exploreO_ok p hs0) rfl (fun hX => ?_) (fun hX => ?_) <;> simp (maxSteps := 1000000) (dsimp := false) (implicitDefEqProofs := false) (disch := omega) only [wrap64, go_sem, pO_low]) | refine awp_seqK fun K hK => ?_ | (refine awp_regionK 8319 rfl ?_; simp only [List.map_cons, List.map_nil]; simp (maxSteps := 1000000) (dsimp := false) (implicitDefEqProofs := false) (disch := omega) only [wrap64, go_sem, pO_low]) | (refine awp_regionQK 8319 (by kernel_rfl) (by kernel_rfl) (by kernel_rfl) ?_; simp only [List.map_cons, List.map_nil]; simp (maxSteps := 1000000) (dsimp := false) (implicitDefEqProofs := false) (disch := omega) only [wrap64, go_sem, pO_low]) | refine awp_block ?_ | (refine awp_skip ?_; simp only [go_sem, pO_low]) | (refine awp_exit ?_; simp only [go_sem, pO_low]) | (refine awp_ret ?_; try simp only [go_sem, pO_low]) | (refine awp_condP rfl ?_; try simp only [go_sem, pO_low]) | (refine BrP.mk (fun h => ?_) (fun h => ?_) <;> try simp (dsimp := false) (disch := omega) only [wrap64]) | (refine Br.mk (fun h => ?_) (fun h => ?_) <;> try simp (dsimp := false) (disch := omega) only [wrap64]) | refine Ob.mk (by first | omega | (intro _ _; rfl) | trivial | (intros; trivial) | assumption | (intro i hi; have h0 : i = 0 := (by omega); subst h0; first | rfl | trivial) | (intro i hi; have h0 : i = 0 ∨ i = 1 := (by omega); rcases h0 with rfl | rfl <;> rfl) | (intro i hi; have h0 : i = 0 ∨ i = 1 ∨ i = 2 := (by omega); rcases h0 with rfl | rfl | rfl <;> rfl)) ?_ | apply_assumption -exfalso -symm)
  all_goals (first | (show endQ _ _ _ _ _ _ _; (repeat (rename (∀ (A : Fr) (H : Hp), AWP _ _ _ _ A H → _) => hK; clear hK)); (repeat (rename (Fr → Hp → Prop) => K; clear K))) | (show Exists _; (repeat (rename (∀ (A : Fr) (H : Hp), AWP _ _ _ _ A H → _) => hK; clear hK)); (repeat (rename (Fr → Hp → Prop) => K; clear K))) | skip)
  · have hX := (by assumption : (XS p).isSome = true)
    rw [(hy1 hX).1, (hy1 hX).2, hX]
    exact end_tup3 rfl (by decide) (by decide) (by decide) (Sub.toL (by simp only [go_sem] <;> first | trivial | (simp only [Option.some.injEq, AV.v.injEq, AV.own.injEq, AV.list.injEq, Value.int.injEq, Value.bool.injEq, true_and, and_true]; first | omega | (simp; done)) | (simp; done) | (simp; omega)) (le_addG (Hp.le_upd rfl (Hp.le_emp _)))) ⟨rfl, rfl⟩
  · have hX := (by assumption : (XS p).isSome = false)
    rw [(hn1 hX).1, (hn1 hX).2, hX]
    exact nil_IIB rfl (by decide) (by decide) (by decide) rfl rfl rfl (by decide) (by decide) (by decide) rfl
theorem diameterF_ok (dp : List Int) (h0 : 0 < dp.length) (h1 : dp.length ≤ 3000) : AC Try.prog 74 [.ptr 9 (vecF [.dead, .dead, .dead, .dead, .list false 1 (dp).length (cM iv 0 (dp)), .dead, .dead, .dead, .dead])] Hp.emp (fun _ => false) (retV (.v (.int .i64 (dp.getD (dp.length - 1) 0)))) := by
  have e1 : ((dp.length : Nat) : Int) - 1 = ((dp.length - 1 : Nat) : Int) := by omega
  refine ac_of_awp (N := ⟨_, fun _ => false, fun _ _ => rfl⟩) Try.func74 rfl (by kernel_rfl) Try.ntmps74 (by simp) ?_
  simp only [argsFr, List.zipIdx_cons, List.zipIdx_nil, go_sem]
  repeat' (first | refine awp_seqK fun K hK => ?_ | (refine awp_regionK 5 rfl ?_; simp only [List.map_cons, List.map_nil]; simp (maxSteps := 1000000) (dsimp := false) (implicitDefEqProofs := false) (disch := omega) only [wrap64, go_sem, e1]) | (refine awp_regionQK 5 (by kernel_rfl) (by kernel_rfl) (by kernel_rfl) ?_; simp only [List.map_cons, List.map_nil]; simp (maxSteps := 1000000) (dsimp := false) (implicitDefEqProofs := false) (disch := omega) only [wrap64, go_sem, e1]) | refine awp_block ?_ | (refine awp_skip ?_; simp only [go_sem, e1]) | (refine awp_exit ?_; simp only [go_sem, e1]) | (refine awp_ret ?_; try simp only [go_sem, e1]) | (refine awp_condP rfl ?_; try simp only [go_sem, e1]) | (refine BrP.mk (fun h => ?_) (fun h => ?_) <;> try simp (dsimp := false) (disch := omega) only [wrap64]) | (refine Br.mk (fun h => ?_) (fun h => ?_) <;> try simp (dsimp := false) (disch := omega) only [wrap64]) | refine Ob.mk (by first | omega | (intro _ _; rfl) | trivial | (intros; trivial) | assumption | (intro i hi; have h0 : i = 0 := (by omega); subst h0; first | rfl | trivial) | (intro i hi; have h0 : i = 0 ∨ i = 1 := (by omega); rcases h0 with rfl | rfl <;> rfl) | (intro i hi; have h0 : i = 0 ∨ i = 1 ∨ i = 2 := (by omega); rcases h0 with rfl | rfl | rfl <;> rfl)) ?_ | apply_assumption -exfalso -symm)
  all_goals (first | (show endQ _ _ _ _ _ _ _; (repeat (rename (∀ (A : Fr) (H : Hp), AWP _ _ _ _ A H → _) => hK; clear hK)); (repeat (rename (Fr → Hp → Prop) => K; clear K))) | (show Exists _; (repeat (rename (∀ (A : Fr) (H : Hp), AWP _ _ _ _ A H → _) => hK; clear hK)); (repeat (rename (Fr → Hp → Prop) => K; clear K))) | skip)
  · exact end_retV rfl rfl
theorem slicesIndex_ok (xs : List Int) (x : Int) (hx : xs.length ≤ 1048576) : AC Try.prog 75 [ints xs, .v (.int .i64 (x))] Hp.emp (fun _ => false) (retV (.v (.int .i64 (fidx (fun y => decide (x = y)) xs)))) := by
  refine ac_of_awp (N := ⟨_, fun _ => false, fun _ _ => rfl⟩) Try.func75 rfl (by kernel_rfl) Try.ntmps75 (by simp) ?_
  simp only [argsFr, List.zipIdx_cons, List.zipIdx_nil, go_sem]
  repeat' (first | refine awp_seqK fun K hK => ?_ | (refine awp_regionK 66483 rfl ?_; simp only [List.map_cons, List.map_nil]; simp (maxSteps := 1000000) (dsimp := false) (implicitDefEqProofs := false) (disch := omega) only [wrap64, go_sem]) | (refine awp_regionQK 66483 (by kernel_rfl) (by kernel_rfl) (by kernel_rfl) ?_; simp only [List.map_cons, List.map_nil]; simp (maxSteps := 1000000) (dsimp := false) (implicitDefEqProofs := false) (disch := omega) only [wrap64, go_sem]) | refine awp_block ?_ | (refine awp_skip ?_; simp only [go_sem]) | (refine awp_exit ?_; simp only [go_sem]) | (refine awp_ret ?_; try simp only [go_sem]) | (refine awp_condP rfl ?_; try simp only [go_sem]) | (refine BrP.mk (fun h => ?_) (fun h => ?_) <;> try simp (dsimp := false) (disch := omega) only [wrap64]) | (refine Br.mk (fun h => ?_) (fun h => ?_) <;> try simp (dsimp := false) (disch := omega) only [wrap64]) | refine Ob.mk (by first | omega | (intro _ _; rfl) | trivial | (intros; trivial) | assumption | (intro i hi; have h0 : i = 0 := (by omega); subst h0; first | rfl | trivial) | (intro i hi; have h0 : i = 0 ∨ i = 1 := (by omega); rcases h0 with rfl | rfl <;> rfl) | (intro i hi; have h0 : i = 0 ∨ i = 1 ∨ i = 2 := (by omega); rcases h0 with rfl | rfl | rfl <;> rfl)) ?_ | apply_assumption -exfalso -symm)
  all_goals (first | (show endQ _ _ _ _ _ _ _; (repeat (rename (∀ (A : Fr) (H : Hp), AWP _ _ _ _ A H → _) => hK; clear hK)); (repeat (rename (Fr → Hp → Prop) => K; clear K))) | (show Exists _; (repeat (rename (∀ (A : Fr) (H : Hp), AWP _ _ _ _ A H → _) => hK; clear hK)); (repeat (rename (Fr → Hp → Prop) => K; clear K))) | skip)
  refine awp_loop (ι := Nat) (fun k => [(8, .v (.int .i64 (k))), (7, .v (.int .i64 (xs.length))), (0, .list false 1 (xs).length (cM iv 0 (xs))), (1, .v (.int .i64 (x)))]) (fun k => Hp.emp) (fun k => k ≤ xs.length ∧ ∀ j, j < k → decide (x = xs.getD j 0) = false) (fun k => xs.length - k) 0 ?_ (Sub.toL (by simp only [go_sem] <;> first | trivial | (simp only [Option.some.injEq, AV.v.injEq, AV.own.injEq, AV.list.injEq, Value.int.injEq, Value.bool.injEq, true_and, and_true]; first | omega | (simp; done)) | (simp; done) | (simp; omega)) (by (repeat' (first | exact Hp.le_emp _ | exact Hp.le_refl _ | refine Hp.le_upd ?_ ?_)); all_goals (first | rfl | (simp only [go_sem]; first | rfl | (refine cellsE ?_ ?_ <;> (simp)) | (simp))))) ?_
  · exact ⟨Nat.zero_le _, fun j h => absurd h (Nat.not_lt_zero _)⟩
  intro k hk
  repeat' (first | refine awp_seqK fun K hK => ?_ | (refine awp_regionK 66483 rfl ?_; simp only [List.map_cons, List.map_nil]; simp (maxSteps := 1000000) (dsimp := false) (implicitDefEqProofs := false) (disch := omega) only [wrap64, go_sem]) | (refine awp_regionQK 66483 (by kernel_rfl) (by kernel_rfl) (by kernel_rfl) ?_; simp only [List.map_cons, List.map_nil]; simp (maxSteps := 1000000) (dsimp := false) (implicitDefEqProofs := false) (disch := omega) only [wrap64, go_sem]) | refine awp_block ?_ | (refine awp_skip ?_; simp only [go_sem]) | (refine awp_exit ?_; simp only [go_sem]) | (refine awp_ret ?_; try simp only [go_sem]) | (refine awp_condP rfl ?_; try simp only [go_sem]) | (refine BrP.mk (fun h => ?_) (fun h => ?_) <;> try simp (dsimp := false) (disch := omega) only [wrap64]) | (refine Br.mk (fun h => ?_) (fun h => ?_) <;> try simp (dsimp := false) (disch := omega) only [wrap64]) | refine Ob.mk (by first | omega | (intro _ _; rfl) | trivial | (intros; trivial) | assumption | (intro i hi; have h0 : i = 0 := (by omega); subst h0; first | rfl | trivial) | (intro i hi; have h0 : i = 0 ∨ i = 1 := (by omega); rcases h0 with rfl | rfl <;> rfl) | (intro i hi; have h0 : i = 0 ∨ i = 1 ∨ i = 2 := (by omega); rcases h0 with rfl | rfl | rfl <;> rfl)) ?_ | apply_assumption -exfalso -symm)
  all_goals (first | (show endQ _ _ _ _ _ _ _; (repeat (rename (∀ (A : Fr) (H : Hp), AWP _ _ _ _ A H → _) => hK; clear hK)); (repeat (rename (Fr → Hp → Prop) => K; clear K))) | (show Exists _; (repeat (rename (∀ (A : Fr) (H : Hp), AWP _ _ _ _ A H → _) => hK; clear hK)); (repeat (rename (Fr → Hp → Prop) => K; clear K))) | skip)
  · exact end_retN rfl rfl (fidx_hit (fun y => decide (x = y)) xs 0 k (by omega) hk.2 (decide_eq_true ‹_›)).symm
  · refine ⟨k + 1, ?_, ?_, Sub.toL (by simp only [go_sem] <;> first | trivial | (simp only [Option.some.injEq, AV.v.injEq, AV.own.injEq, AV.list.injEq, Value.int.injEq, Value.bool.injEq, true_and, and_true]; first | omega | (simp; done)) | (simp; done) | (simp; omega)) (by (repeat' (first | exact Hp.le_emp _ | exact Hp.le_refl _ | refine Hp.le_upd ?_ ?_)); all_goals (first | rfl | (simp only [go_sem]; first | rfl | (refine cellsE ?_ ?_ <;> (simp)) | (simp))))⟩
    · refine ⟨by omega, fun j hj => ?_⟩
      by_cases h' : j = k
      · subst h'; exact decide_eq_false ‹_›
      · exact hk.2 j (by omega)
    · omega
  · exact end_retN rfl rfl (fidx_none (fun y => decide (x = y)) xs 0 fun j hj => hk.2 j (by omega)).symm
theorem far_idx (B : Bf) (h0 : 0 < B.st.length) (hl : B.dp.length = B.st.length) (hm : ∀ i j, i ≤ j → j < B.st.length → B.dp.getD i 0 ≤ B.dp.getD j 0) : fidx (fun y => decide (B.dp.getD (B.st.length - 1) 0 = y)) B.dp = ((farI B : Nat) : Int) ∧ farI B < B.st.length := by
  have hlt : farI B < B.dp.length := by
    unfold farI
    refine List.findIdx_lt_length_of_exists ⟨B.dp.getD (B.st.length - 1) 0, ?_, by simp⟩
    rw [List.getD_eq_getElem?_getD, List.getElem?_eq_getElem (show B.st.length - 1 < B.dp.length by omega)]
    exact List.getElem_mem _
  refine ⟨?_, by omega⟩
  refine fidx_hit _ B.dp 0 (farI B) hlt (fun j hj => ?_) ?_
  · have h2 : j < B.dp.length := by omega
    have h1 := List.not_of_lt_findIdx (p := fun d => decide (¬ d < B.dp.getD (B.st.length - 1) 0)) (xs := B.dp) hj
    have h3 : B.dp.getD j 0 < B.dp.getD (B.st.length - 1) 0 := by
      have h4 : (decide (¬ B.dp[j] < B.dp.getD (B.st.length - 1) 0)) = false := h1
      have h5 := of_decide_eq_false h4
      have e : B.dp.getD j 0 = B.dp[j] := by rw [List.getD_eq_getElem?_getD, List.getElem?_eq_getElem h2]; rfl
      rw [e]; exact Classical.not_not.1 h5
    exact decide_eq_false (by omega)
  · have h1 : decide (¬ B.dp[farI B] < B.dp.getD (B.st.length - 1) 0) = true := List.findIdx_getElem (p := fun d => decide (¬ d < B.dp.getD (B.st.length - 1) 0)) (w := hlt)
    have e : B.dp.getD (farI B) 0 = B.dp[farI B] := by rw [List.getD_eq_getElem?_getD, List.getElem?_eq_getElem hlt]; rfl
    have h2 := of_decide_eq_true h1
    rw [← e] at h2
    have h3 := hm (farI B) (B.st.length - 1) (by omega) (by omega)
    exact decide_eq_true (by omega)
theorem fits_exp {H : Hp} {a b c d x0 x1 x2 x3 : AV} {dp : List Int} (h0 : H 1000000 = some (.cells 9 (vecF [a, b, c, d, .own 1000002 0 1 dp.length, x0, x1, x2, x3]))) (h2 : H 1000002 = some (.cells dp.length (cM iv 0 dp))) : Fits H (fun _ => True) (.ref 1000000 0) (.ptr 9 (vecF [.dead, .dead, .dead, .dead, .list false 1 (dp).length (cM iv 0 (dp)), .dead, .dead, .dead, .dead])) := by
  refine .ref h0 trivial (by omega) (fun i hi => ?_) (fun i hi => ?_)
  · match i, hi with
    | 0, _ => trivial
    | 1, _ => trivial
    | 2, _ => trivial
    | 3, _ => trivial
    | 4, _ => trivial
    | 5, _ => trivial
    | 6, _ => trivial
    | 7, _ => trivial
    | 8, _ => trivial
  · match i, hi with
    | 0, _ => exact .dead _
    | 1, _ => exact .dead _
    | 2, _ => exact .dead _
    | 3, _ => exact .dead _
    | 4, _ => exact fits_I h2 trivial rfl rfl
    | 5, _ => exact .dead _
    | 6, _ => exact .dead _
    | 7, _ => exact .dead _
    | 8, _ => exact .dead _
theorem implFarthestState_ok (p : Pz) (hs0 : p.s.size ≤ 140737488355328) (d : Nat) : AC Try.prog 34 [pz p] Hp.emp (fun _ => false) (retI d (farP p)) := by
  obtain ⟨hb1, hb2⟩ := XA_basic p
  have hd := fun h : 0 < (XA p).dp.length => diameterF_ok (XA p).dp h (by omega)
  have hix := slicesIndex_ok (XA p).dp ((XA p).dp.getD ((XA p).dp.length - 1) 0) (by omega)
  have hpos := fun h : (XS p).isSome = true => (XA_whole h).2.1.pos
  have hfi : (XS p).isSome = true → fidx (fun y => decide ((XA p).dp.getD ((XA p).dp.length - 1) 0 = y)) (XA p).dp = ((farI (XA p) : Nat) : Int) ∧ farI (XA p) < (XA p).st.length := fun h => by
    rw [hb2]
    have hw := (XA_whole h).2.1
    exact far_idx (XA p) hw.pos hb2 hw.mono
  have hix2 : (XS p).isSome = true → AC Try.prog 75 [ints (XA p).dp, .v (.int .i64 ((XA p).dp.getD ((XA p).dp.length - 1) 0))] Hp.emp (fun _ => false) (retV (.v (.int .i64 (((farI (XA p) : Nat) : Int))))) := fun h => by rw [← (hfi h).1]; exact hix
  clear hix
  have hmx : (XS p).isSome = true → mixF 1000001 (XA p).st (XA p).st.length (farI (XA p)) = .own (sub 1000001 (farI (XA p))) 0 1 ((XA p).st.getD (farI (XA p)) []).length := fun h => mixF_lt (hfi h).2
  refine ac_of_awp (N := ⟨_, fun _ => false, fun _ _ => rfl⟩) Try.func34 rfl (by kernel_rfl) Try.ntmps34 (by simp) ?_
  simp only [argsFr, List.zipIdx_cons, List.zipIdx_nil, go_sem]
  repeat' (first | (refine Ob.mk (by have := (hfi (by assumption)).2; omega) ?_) | ((first | refine atF (f := 64) ?_ | refine atQ (f := 64) ?_); refine callO (exploreO_ok p hs0) rfl (fun hX => ?_) (fun hX => ?_) <;> simp (maxSteps := 1000000) (dsimp := false) (implicitDefEqProofs := false) (disch := omega) only [wrap64, go_sem, pO_low, hmx]) | refine awp_seqK fun K hK => ?_ | (refine awp_regionK 2079 rfl ?_; simp only [List.map_cons, List.map_nil]; simp (maxSteps := 1000000) (dsimp := false) (implicitDefEqProofs := false) (disch := omega) only [wrap64, go_sem, pO_low, hmx]) | (refine awp_regionQK 2079 (by kernel_rfl) (by kernel_rfl) (by kernel_rfl) ?_; simp only [List.map_cons, List.map_nil]; simp (maxSteps := 1000000) (dsimp := false) (implicitDefEqProofs := false) (disch := omega) only [wrap64, go_sem, pO_low, hmx]) | refine awp_block ?_ | (refine awp_skip ?_; simp only [go_sem, pO_low, hmx]) | (refine awp_exit ?_; simp only [go_sem, pO_low, hmx]) | (refine awp_ret ?_; try simp only [go_sem, pO_low, hmx]) | (refine awp_condP rfl ?_; try simp only [go_sem, pO_low, hmx]) | (refine BrP.mk (fun h => ?_) (fun h => ?_) <;> try simp (dsimp := false) (disch := omega) only [wrap64]) | (refine Br.mk (fun h => ?_) (fun h => ?_) <;> try simp (dsimp := false) (disch := omega) only [wrap64]) | refine Ob.mk (by first | omega | (intro _ _; rfl) | trivial | (intros; trivial) | assumption | (intro i hi; have h0 : i = 0 := (by omega); subst h0; first | rfl | trivial) | (intro i hi; have h0 : i = 0 ∨ i = 1 := (by omega); rcases h0 with rfl | rfl <;> rfl) | (intro i hi; have h0 : i = 0 ∨ i = 1 ∨ i = 2 := (by omega); rcases h0 with rfl | rfl | rfl <;> rfl)) ?_ | ((first | ((first | refine atF (f := 74) ?_ | refine atQ (f := 74) ?_); refine cQV (hfit := .cons (fits_exp (add_lit (by omega) (by omega)) (add_lit (by omega) (by omega))) .nil) (hac := hd (by have := hpos (by assumption); omega)) (hK := ?_)) | (refine cV (hac := hix2 (by assumption)) (hK := ?_)) | (refine cQV (hac := hix2 (by assumption)) (hK := ?_))); simp (maxSteps := 1000000) (dsimp := false) (implicitDefEqProofs := false) (disch := omega) only [wrap64, go_sem, pO_low, hmx]) | apply_assumption -exfalso -symm)
  all_goals (first | (show endQ _ _ _ _ _ _ _; (repeat (rename (∀ (A : Fr) (H : Hp), AWP _ _ _ _ A H → _) => hK; clear hK)); (repeat (rename (Fr → Hp → Prop) => K; clear K))) | (show Exists _; (repeat (rename (∀ (A : Fr) (H : Hp), AWP _ _ _ _ A H → _) => hK; clear hK)); (repeat (rename (Fr → Hp → Prop) => K; clear K))) | skip)
  · refine end_retI' rfl rfl (add_sub (by rw [FB_eq]; omega) (hfi (by assumption)).2 (by rw [FB_eq]; omega)) (if_pos (by assumption)).symm rfl rfl
  · exact end_retI_nil' rfl rfl (if_neg (by simp [*])).symm rfl
/-- The places of the states of a depth. -/
def selD (B : Bf) (d : Int) (k : Nat) : List Nat := (List.range k).filter fun j => decide (B.dp.getD j 0 = d)
theorem atD_sel (B : Bf) (d : Int) (k : Nat) : atD B d k = (selD B d k).map fun j => B.st.getD j [] := rfl
theorem selD_succ (B : Bf) (d : Int) (k : Nat) : selD B d (k + 1) = selD B d k ++ if B.dp.getD k 0 = d then [k] else [] := by
  unfold selD
  rw [List.range_succ, List.filter_append]
  congr 1
  by_cases h : B.dp.getD k 0 = d
  · rw [if_pos h, List.filter_cons_of_pos (by simpa using h)]; rfl
  · rw [if_neg h, List.filter_cons_of_neg (by simpa using h)]; rfl
theorem selD_lt {B : Bf} {d : Int} {k j : Nat} (h : j ∈ selD B d k) : j < k := List.mem_range.1 (List.mem_filter.1 h).1
theorem selD_nd (B : Bf) (d : Int) (k : Nat) : (selD B d k).Nodup := List.nodup_range.filter _
theorem implStatesAtDepth_ok (p : Pz) (x : Int) (hs0 : p.s.size ≤ 140737488355328) (d : Nat) (hd : d < 2097152) : AC Try.prog 33 [pz p, .v (.int .i64 (x))] Hp.emp (fun _ => false) (retII d (statD p x)) := by
  obtain ⟨hb1, hb2⟩ := XA_basic p
  have hle := atD_le (XA p) x (XA p).st.length
  have hsl : (statD p x).length ≤ 3000 := by
    unfold statD
    split
    · omega
    · simp
  refine AC.famI (d0 := 60) ?_ d (by rw [FB_eq]; omega) hd (by rw [FB_eq]; omega) (fun ρ => by simp only [List.map_cons, List.map_nil, pz_ren]; rfl)
  refine ac_of_awp (N := ⟨_, fun _ => false, fun _ _ => rfl⟩) Try.func33 rfl (by kernel_rfl) Try.ntmps33 (by simp) ?_
  simp only [argsFr, List.zipIdx_cons, List.zipIdx_nil, go_sem]
  repeat' (first | ((first | refine atF (f := 64) ?_ | refine atQ (f := 64) ?_); refine callO (exploreO_ok p hs0) rfl (fun hX => ?_) (fun hX => ?_) <;> simp (maxSteps := 1000000) (dsimp := false) (implicitDefEqProofs := false) (disch := omega) only [wrap64, go_sem, pO_low]) | refine awp_seqK fun K hK => ?_ | (refine awp_regionK 552666103 rfl ?_; simp only [List.map_cons, List.map_nil]; simp (maxSteps := 1000000) (dsimp := false) (implicitDefEqProofs := false) (disch := omega) only [wrap64, go_sem, pO_low]) | (refine awp_regionQK 552666103 (by kernel_rfl) (by kernel_rfl) (by kernel_rfl) ?_; simp only [List.map_cons, List.map_nil]; simp (maxSteps := 1000000) (dsimp := false) (implicitDefEqProofs := false) (disch := omega) only [wrap64, go_sem, pO_low]) | refine awp_block ?_ | (refine awp_skip ?_; simp only [go_sem, pO_low]) | (refine awp_exit ?_; simp only [go_sem, pO_low]) | (refine awp_ret ?_; try simp only [go_sem, pO_low]) | (refine awp_condP rfl ?_; try simp only [go_sem, pO_low]) | (refine BrP.mk (fun h => ?_) (fun h => ?_) <;> try simp (dsimp := false) (disch := omega) only [wrap64]) | (refine Br.mk (fun h => ?_) (fun h => ?_) <;> try simp (dsimp := false) (disch := omega) only [wrap64]) | refine Ob.mk (by first | omega | (intro _ _; rfl) | trivial | (intros; trivial) | assumption | (intro i hi; have h0 : i = 0 := (by omega); subst h0; first | rfl | trivial) | (intro i hi; have h0 : i = 0 ∨ i = 1 := (by omega); rcases h0 with rfl | rfl <;> rfl) | (intro i hi; have h0 : i = 0 ∨ i = 1 ∨ i = 2 := (by omega); rcases h0 with rfl | rfl | rfl <;> rfl)) ?_ | apply_assumption -exfalso -symm)
  all_goals (first | (show endQ _ _ _ _ _ _ _; (repeat (rename (∀ (A : Fr) (H : Hp), AWP _ _ _ _ A H → _) => hK; clear hK)); (repeat (rename (Fr → Hp → Prop) => K; clear K))) | (show Exists _; (repeat (rename (∀ (A : Fr) (H : Hp), AWP _ _ _ _ A H → _) => hK; clear hK)); (repeat (rename (Fr → Hp → Prop) => K; clear K))) | skip)
  · have hX := (by assumption : (XS p).isSome = true)
    obtain ⟨hz, hw, hx⟩ := XA_whole hX
    have hst : statD p x = atD (XA p) x (XA p).st.length := if_pos hX
    clear hw
    obtain ⟨R, hR⟩ : ∃ R : Hp, R = (Hp.emp.upd 1000000 (.cells 9 (vecF [.v (.int .i64 (p.n)), .v (.string (p.s)), .list false 1 (p.m).length (cM ints [] (p.m)), .own 1000001 0 1 (XA p).st.length, .own 1000002 0 1 (XA p).dp.length, .dead, .dead, .dead, .dead]))).upd 1000002 (.cells (XA p).dp.length (cM iv 0 (XA p).dp)) := ⟨_, rfl⟩
    have hRn : ∀ g, g < 1000000 → ((RR 1000001 (XA p).st).add R) g = none := fun g hg => by
      rw [add_low (by rw [FB_eq]; omega) (by omega), hR]
      unfold Hp.upd
      rw [if_neg (by omega), if_neg (by omega)]; rfl
    refine awp_loop (ι := Nat) (fun k => [(22, .v (.int .i64 (k))), (21, .v (.int .i64 ((XA p).dp.length))), (20, .own 1000002 0 1 (XA p).dp.length), (7, .own 60 0 1 (atD (XA p) x k).length), (5, .ref 1000000 0), (1, .v (.int .i64 (x)))]) (fun k => ((RR 1000001 (XA p).st).add R).upd 60 (.cells (atD (XA p) x k).length (selF 60 1000001 0 (selD (XA p) x k) (atD (XA p) x k)))) (fun k => k ≤ (XA p).dp.length) (fun k => (XA p).dp.length - k) 0 (Nat.zero_le _) (Sub.trans (Sub.nil (i := 7) 60 1 (selF 60 1000001 0 [] []) rfl rfl) (Sub.toLF (by simp only [go_sem] <;> first | trivial | (simp only [Option.some.injEq, AV.v.injEq, AV.own.injEq, AV.list.injEq, Value.int.injEq, Value.bool.injEq, true_and, and_true]; first | omega | (simp; done)) | (simp; done) | (simp; omega)) (leF_upd (B' := .cells 0 (scF (fun h => h == 60) (selF 60 1000001 0 [] []))) rfl (bfE rfl (fun i hi => absurd hi (Nat.not_lt_zero i))) (fun g B hB => ⟨id, B, ?_, .refl _ _ _⟩) id))) ?_
    · have hg : g ≠ 60 := fun e => by rw [e, hRn 60 (by omega)] at hB; cases hB
      rw [Hp.scrub_upd, Hp.scrub_add (by omega)]
      refine (le_free (hRn 60 (by omega)) (le_addG ?_)) g B hB
      simp only [Hp.scrub_upd, Hp.scrub_emp, Blk.scrub_cells, scF_vecF, List.map_cons, List.map_nil, AV.scrub, Nat.reduceBEq, Bool.false_eq_true, if_false]
      rw [hR]
      exact Hp.le_upd rfl (Hp.le_upd rfl (Hp.le_emp _))
    intro k hk
    have hs := atD_succ (XA p) x k
    have hs2 := selD_succ (XA p) x k
    have hlk := atD_le (XA p) x k
    have hsl : (atD (XA p) x k).length = 0 + (selD (XA p) x k).length := by rw [atD_sel, List.length_map, Nat.zero_add]
    have hmx : k < (XA p).st.length → mixF 1000001 (XA p).st (XA p).st.length k = .own (sub 1000001 k) 0 1 ((XA p).st.getD k []).length := fun h => mixF_lt h
    have hge := sub_ge 1000001 k
    rw [FB_eq] at hge
    have hsne : ∀ b, b < 2097152 → (sub 1000001 k == b) = false := fun b hb => beq_eq_false_iff_ne.2 (by omega)
    rw [hR] at hRn ⊢
    repeat' (first | refine awp_seqK fun K hK => ?_ | (refine awp_regionK 552666103 rfl ?_; simp only [List.map_cons, List.map_nil]; simp (maxSteps := 1000000) (dsimp := false) (implicitDefEqProofs := false) (disch := omega) only [wrap64, go_sem, hmx, hsne]) | (refine awp_regionQK 552666103 (by kernel_rfl) (by kernel_rfl) (by kernel_rfl) ?_; simp only [List.map_cons, List.map_nil]; simp (maxSteps := 1000000) (dsimp := false) (implicitDefEqProofs := false) (disch := omega) only [wrap64, go_sem, hmx, hsne]) | refine awp_block ?_ | (refine awp_skip ?_; simp only [go_sem, hmx, hsne]) | (refine awp_exit ?_; simp only [go_sem, hmx, hsne]) | (refine awp_ret ?_; try simp only [go_sem, hmx, hsne]) | (refine awp_condP rfl ?_; try simp only [go_sem, hmx, hsne]) | (refine BrP.mk (fun h => ?_) (fun h => ?_) <;> try simp (dsimp := false) (disch := omega) only [wrap64]) | (refine Br.mk (fun h => ?_) (fun h => ?_) <;> try simp (dsimp := false) (disch := omega) only [wrap64]) | refine Ob.mk (by first | omega | (intro _ _; rfl) | trivial | (intros; trivial) | assumption | (intro i hi; have h0 : i = 0 := (by omega); subst h0; first | rfl | trivial) | (intro i hi; have h0 : i = 0 ∨ i = 1 := (by omega); rcases h0 with rfl | rfl <;> rfl) | (intro i hi; have h0 : i = 0 ∨ i = 1 ∨ i = 2 := (by omega); rcases h0 with rfl | rfl | rfl <;> rfl)) ?_ | apply_assumption -exfalso -symm)
    all_goals (first | (show endQ _ _ _ _ _ _ _; (repeat (rename (∀ (A : Fr) (H : Hp), AWP _ _ _ _ A H → _) => hK; clear hK)); (repeat (rename (Fr → Hp → Prop) => K; clear K))) | (show Exists _; (repeat (rename (∀ (A : Fr) (H : Hp), AWP _ _ _ _ A H → _) => hK; clear hK)); (repeat (rename (Fr → Hp → Prop) => K; clear K))) | skip)
    · rw [if_pos (by assumption)] at hs hs2
      refine ⟨k + 1, by omega, by omega, ?_⟩
      rw [hs, hs2, sc_sel (by omega), sc_sel (by omega)]
      refine Sub.toLF (by simp only [go_sem] <;> first | trivial | (simp only [Option.some.injEq, AV.v.injEq, AV.own.injEq, AV.list.injEq, Value.int.injEq, Value.bool.injEq, true_and, and_true]; first | omega | (simp; done)) | (simp; done) | (simp; omega)) (leF_upd (B' := .cells ((atD (XA p) x k).length + 1) (apF (atD (XA p) x k).length (selF 60 1000001 0 (selD (XA p) x k) (atD (XA p) x k)) (setF (zF [Value.slice none 0 0]) 0 (AV.own (sub 1000001 k) 0 1 ((XA p).st.getD k []).length)))) rfl (bfE (by simp) (sel_snoc hsl)) (fun g B hB => ⟨id, B, ?_, .refl _ _ _⟩) id)
      exact le_free (hRn 60 (by omega)) (le_free (hRn 38 (by omega)) (le_free (hRn 60 (by omega)) (Hp.le_refl _))) g B hB
    · rw [if_neg (by assumption), List.append_nil] at hs hs2
      refine ⟨k + 1, by omega, by omega, ?_⟩
      rw [hs, hs2]
      exact Sub.toL (by simp only [go_sem] <;> first | trivial | (simp only [Option.some.injEq, AV.v.injEq, AV.own.injEq, AV.list.injEq, Value.int.injEq, Value.bool.injEq, true_and, and_true]; first | omega | (simp; done)) | (simp; done) | (simp; omega)) (Hp.le_refl _)
    · have ek : k = (XA p).st.length := by omega
      rw [hst, ← ek]
      refine end_retIIs (A' := [(4, .own 60 0 1 (atD (XA p) x k).length)]) rfl (Sub.absorbS (S := 60) (T := 1000001) (st := atD (XA p) x k) (st0 := []) (xs := (XA p).st) (sel := selD (XA p) x k) (H' := Hp.emp) (by omega) (by omega) (by omega) (by omega) (by omega) rfl rfl (selD_nd _ _ _) (fun j hj => by have := selD_lt hj; omega) rfl (fun _ _ => rfl) (fun j hj => absurd hj (Nat.not_lt_zero j)) (fun j hj => ?_) (by simp only [go_sem] <;> first | trivial | (simp only [Option.some.injEq, AV.v.injEq, AV.own.injEq, AV.list.injEq, Value.int.injEq, Value.bool.injEq, true_and, and_true]; first | omega | (simp; done)) | (simp; done) | (simp; omega)) (by simp only [Fr.low, AV.low, and_true, true_and]; omega) (fun g B hB => by simp [Hp.emp] at hB)) rfl
      have hgj := sub_ge 1000001 j
      rw [FB_eq] at hgj
      unfold Hp.upd
      rw [if_neg (by omega)]
      exact add_sub (by rw [FB_eq]; omega) hj (by rw [FB_eq]; omega)
  · have e : statD p x = [] := if_neg (by simp [*])
    exact end_retII_nil rfl rfl e.symm rfl
end Go.Proofs.Ytiihgbobdipikaa
