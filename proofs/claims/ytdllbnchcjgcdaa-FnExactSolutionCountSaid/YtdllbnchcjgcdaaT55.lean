import Derived.Test.YtdllbnchcjgcdaaT54
/- How many words of a length solve a state. -/
namespace Go.Proofs.Ytdllbnchcjgcdaa
open Go.Av
set_option linter.unusedSimpArgs false
set_option linter.unusedVariables false
attribute [local irreducible] AWP CallG Ob Br BrP Go.Av.Sub endQ AOps OpV AC thenA blkA opsVC opVC withA withArgs opsQ opQ CallQ withA2 withArgs2
open Go.Pm (Pm comp invp idn img Gen Bf srch sorts srtN Srt slot sidx insAt sumS)
noncomputable def scP (p : Pz) (s : List Int) (n : Int) : Int := if 0 ≤ dstP p s ∧ 0 ≤ n ∧ n ≤ 12 then ((XA p).sol (XA p).st.length n.toNat).getD ((XA p).st.idxOf s) 0 else -1
theorem sol_small {p : Pz} (h : (XS p).isSome = true) {t : Nat} (ht : t ≤ 11) (i : Nat) : 0 ≤ ((XA p).sol (XA p).st.length t).getD i 0 ∧ ((XA p).sol (XA p).st.length t).getD i 0 ≤ 17592186044416 := by
  obtain ⟨hz, hw, hx⟩ := XA_whole h
  have hm := hz.1.2.1
  have hlm := lsP_length p
  have h1 : ∀ k, ((XA p).nx.getD k []).length ≤ 16 := fun k => by
    by_cases hk : k < (XA p).st.length
    · rw [(hw.nx k hk).1]; omega
    · rw [List.getD_eq_getElem?_getD, List.getElem?_eq_none (by rw [hw.nl]; omega)]; simp
  have h2 := Bf.sol_bd (B := XA p) (N := (XA p).st.length) (m := 16) h1 (by omega) t i
  have h3 : 16 ^ t ≤ 16 ^ 11 := Nat.pow_le_pow_right (by omega) ht
  have h4 : (16 : Nat) ^ 11 = 17592186044416 := by decide
  rw [h4] at h3
  omega
theorem sol_0 {B : Bf} {N : Nat} (h : 0 < N) : setF (cM iv 0 (List.replicate N 0)) (Int.toNat 0) (.v (.int .i64 1)) = cM iv 0 (B.sol N 0) := by
  rw [show Int.toNat 0 = 0 from rfl, setF_iv _ _ _ (by rw [List.length_replicate]; exact h)]
  congr 1
  obtain ⟨m, rfl⟩ : ∃ m, N = m + 1 := ⟨N - 1, by omega⟩
  rfl
theorem exH_lay {p : Pz} {B : Bf} {ρ : Nat → Option Nat} {H : Hp} (h0 : ρ 1000000 = some 1000000) (h3 : ρ 1000003 = some 1000003) (hH : Hp.le (exH p B) H) : LayF ρ (exH p B) H := by
  have e0 := hH 1000000 _ (show exH p B 1000000 = some (.cells 9 (exR p B)) from rfl)
  have e3 := hH 1000003 _ (show exH p B 1000003 = some (.mp (mS iv (kvs B.st))) from rfl)
  unfold exH
  refine layF_map (g := 1000003) h3 e3 ?_ (layF_upd (g := 1000000) (n := 9) h0 e0 (fun i hi => ?_) layF_emp)
  · intro x hx
    obtain ⟨y, hy, rfl⟩ := List.mem_map.1 hx
    trivial
  · unfold exR
    match i, hi with
    | 0, _ => exact .plain trivial
    | 1, _ => exact .plain trivial
    | 2, _ => exact .plain trivial
    | 3, _ => exact .plain trivial
    | 4, _ => exact .plain trivial
    | 5, _ => exact .map h3
    | 6, _ => exact .dead _
    | 7, _ => exact .dead _
    | 8, _ => exact .plain trivial
def rhoC (a b h : Nat) : Option Nat := if h = a then some b else if h = b then none else some h
theorem rhoC_inj {a b x y k : Nat} (hx : rhoC a b x = some k) (hy : rhoC a b y = some k) : x = y := by
  unfold rhoC at hx hy
  split at hx <;> split at hy
  · omega
  · split at hy
    · cases hy
    · simp only [Option.some.injEq] at hx hy; omega
  · split at hx
    · cases hx
    · simp only [Option.some.injEq] at hx hy; omega
  · split at hx
    · cases hx
    · split at hy
      · cases hy
      · simp only [Option.some.injEq] at hx hy; omega
theorem implSolutionCount_ok (p : Pz) (s : List Int) (n : Int) (hs0 : p.s.size ≤ 140737488355328) : AC Try.prog 61 [pz p, ints s, .v (.int .i64 (n))] Hp.emp (fun _ => false) (retV (.v (.int .i64 (scP p s n)))) := by
  obtain ⟨hb1, hb2⟩ := XA_basic p
  have hfd := fun k : isSt p s ∧ s ∈ (XA p).st => fdI_yes k
  have hil : isSt p s ∧ s ∈ (XA p).st → (XA p).st.idxOf s < (XA p).st.length := fun k => List.idxOf_lt_length_iff.2 k.2
  have hrl : (List.replicate (XA p).st.length (0 : Int)).length = (XA p).st.length := List.length_replicate
  have hil2 : isSt p s ∧ s ∈ (XA p).st → 0 < (XA p).st.length := fun k => by have := hil k; omega
  refine ac_of_awp (N := ⟨_, fun _ => false, fun _ _ => rfl⟩) Try.func61 rfl (by kernel_rfl) Try.ntmps61 (by simp) ?_
  simp only [argsFr, List.zipIdx_cons, List.zipIdx_nil, go_sem]
  repeat' (first | (refine Ob.mk (by have := hil2 (by assumption); omega) ?_) | ((first | refine atF (f := 106) ?_ | refine atQ (f := 106) ?_); refine callS3 (exploreState_ok p s hs0) rfl (fun hX => ?_) (fun hX => ?_) <;> simp (maxSteps := 1000000) (dsimp := false) (implicitDefEqProofs := false) (disch := omega) only [wrap64, go_sem, pM_low]) | refine awp_seqK fun K hK => ?_ | (refine awp_regionK 270340085285674959 rfl ?_; simp only [List.map_cons, List.map_nil]; simp (maxSteps := 1000000) (dsimp := false) (implicitDefEqProofs := false) (disch := omega) only [wrap64, go_sem, pM_low]) | (refine awp_regionQK 270340085285674959 (by kernel_rfl) (by kernel_rfl) (by kernel_rfl) ?_; simp only [List.map_cons, List.map_nil]; simp (maxSteps := 1000000) (dsimp := false) (implicitDefEqProofs := false) (disch := omega) only [wrap64, go_sem, pM_low]) | refine awp_block ?_ | (refine awp_skip ?_; simp only [go_sem, pM_low]) | (refine awp_exit ?_; simp only [go_sem, pM_low]) | (refine awp_ret ?_; try simp only [go_sem, pM_low]) | (refine awp_condP rfl ?_; try simp only [go_sem, pM_low]) | (refine BrP.mk (fun h => ?_) (fun h => ?_) <;> try simp (dsimp := false) (disch := omega) only [wrap64]) | (refine Br.mk (fun h => ?_) (fun h => ?_) <;> try simp (dsimp := false) (disch := omega) only [wrap64]) | refine Ob.mk (by first | omega | (intro _ _; rfl) | trivial | (intros; trivial) | assumption | (intro i hi; have h0 : i = 0 := (by omega); subst h0; first | rfl | trivial) | (intro i hi; have h0 : i = 0 ∨ i = 1 := (by omega); rcases h0 with rfl | rfl <;> rfl) | (intro i hi; have h0 : i = 0 ∨ i = 1 ∨ i = 2 := (by omega); rcases h0 with rfl | rfl | rfl <;> rfl)) ?_ | ((first | ((first | refine atF (f := 111) ?_ | refine atQ (f := 111) ?_); (first | (refine cV (hac := within_ok _ _ _) (hK := ?_)) | (refine cQV (hac := within_ok _ _ _) (hK := ?_))))); simp (maxSteps := 1000000) (dsimp := false) (implicitDefEqProofs := false) (disch := omega) only [wrap64, go_sem, pM_low]) | apply_assumption -exfalso -symm)
  all_goals (first | (show endQ _ _ _ _ _ _ _; (repeat (rename (∀ (A : Fr) (H : Hp), AWP _ _ _ _ A H → _) => hK; clear hK)); (repeat (rename (Fr → Hp → Prop) => K; clear K))) | (show Exists _; (repeat (rename (∀ (A : Fr) (H : Hp), AWP _ _ _ _ A H → _) => hK; clear hK)); (repeat (rename (Fr → Hp → Prop) => K; clear K))) | skip)
  · have hX := (by assumption : (XS p).isSome = true)
    obtain ⟨hz, hw, hx⟩ := XA_whole hX
    have hmem := (by assumption : isSt p s ∧ s ∈ (XA p).st)
    have hil := hil hmem
    have e1 := hfd hmem
    have hsc : scP p s n = ((XA p).sol (XA p).st.length n.toNat).getD ((XA p).st.idxOf s) 0 := if_pos ⟨dst_yes hX hmem, (by assumption : 0 ≤ n ∧ n ≤ 12)⟩
    obtain ⟨i, hi⟩ : ∃ i, i = (XA p).st.idxOf s := ⟨_, rfl⟩
    rw [← hi] at hil e1 hsc
    rw [e1]
    have hsm := fun {t} (ht : t ≤ 11) => sol_small hX ht
    have hnl := hw.nl
    have hnr := fun {k} (hk : k < (XA p).st.length) => (hw.nx k hk).1
    have hnb := fun {k} (hk : k < (XA p).st.length) j (hj : j < (lsP p).length) => hw.nxb hk hj
    have hm := hz.1.2.1
    have hlm := lsP_length p
    have hs0 := sol_0 (B := XA p) hw.pos
    clear hw hfd hil2
    obtain ⟨Q, hQ⟩ : ∃ Q, Q = (XA p).st.length := ⟨_, rfl⟩
    have hpos : 0 < Q := by omega
    refine awp_loop (ι := Nat) (fun t => [(38, .v (.int .i64 (t))), (37, .v (.int .i64 (n))), (10, .own 34 0 1 Q), (8, .v (.int .i64 (i))), (7, .ref 1000000 0)]) (fun t => (exH p (XA p)).upd 34 (.cells Q (cM iv 0 ((XA p).sol Q t)))) (fun t => (t : Int) ≤ n) (fun t => n.toNat - t) 0 (by omega) (Sub.toL (by rw [hQ]; exact (by simp only [go_sem] <;> first | trivial | (simp only [Option.some.injEq, AV.v.injEq, AV.own.injEq, AV.list.injEq, Value.int.injEq, Value.bool.injEq, true_and, and_true]; first | omega | (simp; done)) | (simp; done) | (simp; omega))) (by rw [hQ]; unfold exH exR; exact Hp.le_upd (by show some (Blk.cells _ _) = _; rw [hs0]) (Hp.le_upd rfl (Hp.le_upd rfl (Hp.le_emp _))))) ?_
    intro t ht
    have hcl := (XA p).sol_length hpos t
    have hsm := fun h => hsm (t := t) h
    have hse := (XA p).soz_end Q t
    rw [← hQ] at hsm
    obtain ⟨c, hc⟩ : ∃ c, c = (XA p).sol Q t := ⟨_, rfl⟩
    rw [← hc] at hcl hsm hse ⊢
    unfold exH exR
    repeat' (first | refine awp_seqK fun K hK => ?_ | (refine awp_regionK 270340085285674959 rfl ?_; simp only [List.map_cons, List.map_nil]; simp (maxSteps := 1000000) (dsimp := false) (implicitDefEqProofs := false) (disch := omega) only [wrap64, go_sem]) | (refine awp_regionQK 270340085285674959 (by kernel_rfl) (by kernel_rfl) (by kernel_rfl) ?_; simp only [List.map_cons, List.map_nil]; simp (maxSteps := 1000000) (dsimp := false) (implicitDefEqProofs := false) (disch := omega) only [wrap64, go_sem]) | refine awp_block ?_ | (refine awp_skip ?_; simp only [go_sem]) | (refine awp_exit ?_; simp only [go_sem]) | (refine awp_ret ?_; try simp only [go_sem]) | (refine awp_condP rfl ?_; try simp only [go_sem]) | (refine BrP.mk (fun h => ?_) (fun h => ?_) <;> try simp (dsimp := false) (disch := omega) only [wrap64]) | (refine Br.mk (fun h => ?_) (fun h => ?_) <;> try simp (dsimp := false) (disch := omega) only [wrap64]) | refine Ob.mk (by first | omega | (intro _ _; rfl) | trivial | (intros; trivial) | assumption | (intro i hi; have h0 : i = 0 := (by omega); subst h0; first | rfl | trivial) | (intro i hi; have h0 : i = 0 ∨ i = 1 := (by omega); rcases h0 with rfl | rfl <;> rfl) | (intro i hi; have h0 : i = 0 ∨ i = 1 ∨ i = 2 := (by omega); rcases h0 with rfl | rfl | rfl <;> rfl)) ?_ | apply_assumption -exfalso -symm)
    all_goals (first | (show endQ _ _ _ _ _ _ _; (repeat (rename (∀ (A : Fr) (H : Hp), AWP _ _ _ _ A H → _) => hK; clear hK)); (repeat (rename (Fr → Hp → Prop) => K; clear K))) | (show Exists _; (repeat (rename (∀ (A : Fr) (H : Hp), AWP _ _ _ _ A H → _) => hK; clear hK)); (repeat (rename (Fr → Hp → Prop) => K; clear K))) | skip)
    · have htn : t ≤ 11 := by have := (by assumption : 0 ≤ n ∧ n ≤ 12); omega
      have hsm := hsm htn
      refine awp_loop (ι := Nat) (fun k => [(45, .v (.int .i64 (k))), (44, .v (.int .i64 (Q))), (11, .own 42 0 1 Q), (38, .v (.int .i64 (t))), (37, .v (.int .i64 (n))), (10, .own 34 0 1 Q), (8, .v (.int .i64 (i))), (7, .ref 1000000 0)]) (fun k => ((exH p (XA p)).upd 34 (.cells Q (cM iv 0 c))).upd 42 (.cells Q (cM iv 0 ((XA p).soz Q c k)))) (fun k => k ≤ Q) (fun k => Q - k) 0 (Nat.zero_le _) (Sub.toL (by simp only [go_sem] <;> first | trivial | (simp only [Option.some.injEq, AV.v.injEq, AV.own.injEq, AV.list.injEq, Value.int.injEq, Value.bool.injEq, true_and, and_true]; first | omega | (simp; done)) | (simp; done) | (simp; omega)) (by rw [Bf.soz_zero]; unfold exH exR; repeat' (first | exact Hp.le_emp _ | refine Hp.le_upd rfl ?_))) ?_
      intro k hk
      have hnr := fun h => hnr (k := k) h
      have hnb := fun h => hnb (k := k) h
      have hzl := (XA p).soz_length c hk
      have hz0 := fun h => (XA p).soz_0 c (k := k) (N := Q) h
      have hze := fun h => (XA p).soz_set c (k := k) (N := Q) h
      obtain ⟨row, hrow⟩ : ∃ row, row = (XA p).nx.getD k [] := ⟨_, rfl⟩
      unfold exH exR
      repeat' (first | refine awp_seqK fun K hK => ?_ | (refine awp_regionK 270340085285674959 rfl ?_; simp only [List.map_cons, List.map_nil]; simp (maxSteps := 1000000) (dsimp := false) (implicitDefEqProofs := false) (disch := omega) only [wrap64, go_sem, hrow.symm]) | (refine awp_regionQK 270340085285674959 (by kernel_rfl) (by kernel_rfl) (by kernel_rfl) ?_; simp only [List.map_cons, List.map_nil]; simp (maxSteps := 1000000) (dsimp := false) (implicitDefEqProofs := false) (disch := omega) only [wrap64, go_sem, hrow.symm]) | refine awp_block ?_ | (refine awp_skip ?_; simp only [go_sem, hrow.symm]) | (refine awp_exit ?_; simp only [go_sem, hrow.symm]) | (refine awp_ret ?_; try simp only [go_sem, hrow.symm]) | (refine awp_condP rfl ?_; try simp only [go_sem, hrow.symm]) | (refine BrP.mk (fun h => ?_) (fun h => ?_) <;> try simp (dsimp := false) (disch := omega) only [wrap64]) | (refine Br.mk (fun h => ?_) (fun h => ?_) <;> try simp (dsimp := false) (disch := omega) only [wrap64]) | refine Ob.mk (by first | omega | (intro _ _; rfl) | trivial | (intros; trivial) | assumption | (intro i hi; have h0 : i = 0 := (by omega); subst h0; first | rfl | trivial) | (intro i hi; have h0 : i = 0 ∨ i = 1 := (by omega); rcases h0 with rfl | rfl <;> rfl) | (intro i hi; have h0 : i = 0 ∨ i = 1 ∨ i = 2 := (by omega); rcases h0 with rfl | rfl | rfl <;> rfl)) ?_ | apply_assumption -exfalso -symm)
      all_goals (first | (show endQ _ _ _ _ _ _ _; (repeat (rename (∀ (A : Fr) (H : Hp), AWP _ _ _ _ A H → _) => hK; clear hK)); (repeat (rename (Fr → Hp → Prop) => K; clear K))) | (show Exists _; (repeat (rename (∀ (A : Fr) (H : Hp), AWP _ _ _ _ A H → _) => hK; clear hK)); (repeat (rename (Fr → Hp → Prop) => K; clear K))) | skip)
      · rw [← hrow] at hnr hnb hze
        refine awp_loop (ι := Nat) (fun j => [(56, .v (.int .i64 (j))), (55, .v (.int .i64 (row.length))), (54, .list false 1 (row).length (cM iv 0 (row))), (12, .v (.int .i64 (k))), (45, .v (.int .i64 (k))), (44, .v (.int .i64 (Q))), (11, .own 42 0 1 Q), (38, .v (.int .i64 (t))), (37, .v (.int .i64 (n))), (10, .own 34 0 1 Q), (8, .v (.int .i64 (i))), (7, .ref 1000000 0)]) (fun j => ((exH p (XA p)).upd 34 (.cells Q (cM iv 0 c))).upd 42 (.cells Q (cM iv 0 (((XA p).soz Q c k).set k (sumS c (row.take j)))))) (fun j => j ≤ row.length) (fun j => row.length - j) 0 (Nat.zero_le _) (Sub.toL (by simp only [go_sem] <;> first | trivial | (simp only [Option.some.injEq, AV.v.injEq, AV.own.injEq, AV.list.injEq, Value.int.injEq, Value.bool.injEq, true_and, and_true]; first | omega | (simp; done)) | (simp; done) | (simp; omega)) (by rw [List.take_zero, Go.Pm.sumS_nil, hz0 (by omega)]; unfold exH exR; repeat' (first | exact Hp.le_emp _ | refine Hp.le_upd rfl ?_))) ?_
        intro j hj
        have hnr := hnr (by omega)
        have hnb := hnb (by omega) j
        have hsz : (((XA p).soz Q c k).set k (sumS c (row.take j))).length = Q := by rw [List.length_set]; exact hzl
        have hat := (XA p).soz_at c (sumS c (row.take j)) (show k < Q by omega)
        have hb1 := hsm (row.getD j 0).toNat
        have hb2 := Go.Pm.sumS_bd hsm (row.take j)
        rw [List.length_take] at hb2
        unfold exH exR
        repeat' (first | (refine awp_regionEK (id := 15) 270340085285674959 9 (by kernel_rfl) (by kernel_rfl) (by kernel_rfl) ?_; simp only [List.map_cons, List.map_nil, opsE, List.take_succ_cons, List.take_zero, List.drop_succ_cons, List.drop_zero]; simp (maxSteps := 1000000) (dsimp := false) (implicitDefEqProofs := false) (disch := omega) only [wrap64, go_sem, hat]) | refine awp_seqK fun K hK => ?_ | (refine awp_regionK 270340085285674959 rfl ?_; simp only [List.map_cons, List.map_nil]; simp (maxSteps := 1000000) (dsimp := false) (implicitDefEqProofs := false) (disch := omega) only [wrap64, go_sem, hat]) | (refine awp_regionQK 270340085285674959 (by kernel_rfl) (by kernel_rfl) (by kernel_rfl) ?_; simp only [List.map_cons, List.map_nil]; simp (maxSteps := 1000000) (dsimp := false) (implicitDefEqProofs := false) (disch := omega) only [wrap64, go_sem, hat]) | refine awp_block ?_ | (refine awp_skip ?_; simp only [go_sem, hat]) | (refine awp_exit ?_; simp only [go_sem, hat]) | (refine awp_ret ?_; try simp only [go_sem, hat]) | (refine awp_condP rfl ?_; try simp only [go_sem, hat]) | (refine BrP.mk (fun h => ?_) (fun h => ?_) <;> try simp (dsimp := false) (disch := omega) only [wrap64]) | (refine Br.mk (fun h => ?_) (fun h => ?_) <;> try simp (dsimp := false) (disch := omega) only [wrap64]) | refine Ob.mk (by first | omega | (intro _ _; rfl) | trivial | (intros; trivial) | assumption | (intro i hi; have h0 : i = 0 := (by omega); subst h0; first | rfl | trivial) | (intro i hi; have h0 : i = 0 ∨ i = 1 := (by omega); rcases h0 with rfl | rfl <;> rfl) | (intro i hi; have h0 : i = 0 ∨ i = 1 ∨ i = 2 := (by omega); rcases h0 with rfl | rfl | rfl <;> rfl)) ?_ | apply_assumption -exfalso -symm)
        all_goals (first | (show endQ _ _ _ _ _ _ _; (repeat (rename (∀ (A : Fr) (H : Hp), AWP _ _ _ _ A H → _) => hK; clear hK)); (repeat (rename (Fr → Hp → Prop) => K; clear K))) | (show Exists _; (repeat (rename (∀ (A : Fr) (H : Hp), AWP _ _ _ _ A H → _) => hK; clear hK)); (repeat (rename (Fr → Hp → Prop) => K; clear K))) | skip)
        · refine ⟨j + 1, by omega, by omega, ?_⟩
          rw [List.set_set, Go.Pm.take_snoc (by omega), Go.Pm.sumS_snoc]
          exact Sub.toL (by simp only [go_sem] <;> first | trivial | (simp only [Option.some.injEq, AV.v.injEq, AV.own.injEq, AV.list.injEq, Value.int.injEq, Value.bool.injEq, true_and, and_true]; first | omega | (simp; done)) | (simp; done) | (simp; omega)) (by (repeat' (first | exact Hp.le_emp _ | exact Hp.le_refl _ | refine Hp.le_upd ?_ ?_)); all_goals (first | rfl | (simp only [go_sem]; first | rfl | (refine cellsE ?_ ?_ <;> (simp)) | (simp))))
        · have e : j = row.length := by omega
          refine ⟨k + 1, by omega, by omega, ?_⟩
          rw [e, List.take_length, hze (by omega)]
          exact Sub.toL (by simp only [go_sem] <;> first | trivial | (simp only [Option.some.injEq, AV.v.injEq, AV.own.injEq, AV.list.injEq, Value.int.injEq, Value.bool.injEq, true_and, and_true]; first | omega | (simp; done)) | (simp; done) | (simp; omega)) (by (repeat' (first | exact Hp.le_emp _ | exact Hp.le_refl _ | refine Hp.le_upd ?_ ?_)); all_goals (first | rfl | (simp only [go_sem]; first | rfl | (refine cellsE ?_ ?_ <;> (simp)) | (simp))))
      · have e : k = Q := by omega
        refine ⟨t + 1, by omega, by omega, ?_⟩
        rw [e, hse]
        refine Sub.layM (rhoC 34 42) rfl (lay_cons ⟨_, rfl, .plain trivial⟩ (lay_cons ⟨_, rfl, .plain trivial⟩ (lay_cons ⟨_, rfl, .own rfl⟩ (lay_cons ⟨_, rfl, .plain trivial⟩ (lay_cons ⟨_, rfl, .ref rfl⟩ lay_nil))))) ?_ (fun x y k hx hy h1 h2 => rhoC_inj h1 h2)
        exact layF_upd (g := 42) (n := Q) rfl rfl (fun i hi => .plain trivial) (exH_lay (p := p) (B := XA p) rfl rfl (by unfold exH exR; repeat' (first | exact Hp.le_emp _ | refine Hp.le_upd rfl ?_)))
    · refine end_retN rfl rfl ?_
      rw [hsc, hc, show n.toNat = t by omega, hQ]
  · exact end_retN rfl rfl (if_neg fun k => absurd k.2 (by assumption)).symm
  · exact end_retN rfl rfl (if_neg fun k => absurd (dstP_st k.1).2 (by assumption)).symm
  · exact end_retN rfl rfl (if_neg fun k => absurd (dstP_st k.1).1 (by rw [(by assumption : (XS p).isSome = false)]; exact Bool.false_ne_true)).symm
theorem srch_lay {p : Pz} {B : Bf} {ρ : Nat → Option Nat} {H : Hp} {a b : Nat} {w : Bool} (ha : ρ a = some a) (hb : ρ b = some b) (hH : Hp.le ((Hp.emp.upd a (.cells 3 (vecF [.v (.int .i64 (p.n)), .v (.string (p.s)), .list false 1 (p.m).length (cM ints [] (p.m))]))).upd b (.cells 4 (vecF [.list false 1 (B.st).length (cM ints [] (B.st)), .list false 1 (B.dp).length (cM iv 0 (B.dp)), .list false 1 (sorts B.st).length (cM iv 0 (sorts B.st)), .v (.bool (w))]))) H) (hab : a ≠ b) : LayF ρ ((Hp.emp.upd a (.cells 3 (vecF [.v (.int .i64 (p.n)), .v (.string (p.s)), .list false 1 (p.m).length (cM ints [] (p.m))]))).upd b (.cells 4 (vecF [.list false 1 (B.st).length (cM ints [] (B.st)), .list false 1 (B.dp).length (cM iv 0 (B.dp)), .list false 1 (sorts B.st).length (cM iv 0 (sorts B.st)), .v (.bool (w))]))) H := by
  have ea := hH a (.cells 3 (vecF [.v (.int .i64 (p.n)), .v (.string (p.s)), .list false 1 (p.m).length (cM ints [] (p.m))])) (by unfold Hp.upd; rw [if_neg hab, if_pos rfl])
  have eb := hH b (.cells 4 (vecF [.list false 1 (B.st).length (cM ints [] (B.st)), .list false 1 (B.dp).length (cM iv 0 (B.dp)), .list false 1 (sorts B.st).length (cM iv 0 (sorts B.st)), .v (.bool (w))])) (by unfold Hp.upd; rw [if_pos rfl])
  refine layF_upd (g := b) (n := 4) hb eb (fun i hi => ?_) (layF_upd (g := a) (n := 3) ha ea (fun i hi => ?_) layF_emp)
  · match i, hi with
    | 0, _ => exact .plain trivial
    | 1, _ => exact .plain trivial
    | 2, _ => exact .plain trivial
    | 3, _ => exact .plain trivial
  · match i, hi with
    | 0, _ => exact .plain trivial
    | 1, _ => exact .plain trivial
    | 2, _ => exact .plain trivial
theorem specSolutionCount_ok (p : Pz) (s : List Int) (n : Int) : AC Try.prog 60 [pz p, ints s, .v (.int .i64 (n))] Hp.emp (fun _ => false) (retV (.v (.int .i64 (scP p s n)))) := by
  have hac := searchState_ok p s
  have hsc := XAu_scrub p (fun _ => true) (XS p).isSome (.int .i64 (dstP p s)) (.bool (decide (0 ≤ dstP p s)))
  have hni0 : 0 ≤ dstP p s → AC Try.prog 103 [slA (XA p).st (sorts (XA p).st), ints s] Hp.emp (fun _ => false) (retV (.v (.int .i64 ((((XA p).st.idxOf s : Nat) : Int))))) := fun h => by
    obtain ⟨h1, h2, h3⟩ := dstP_st h
    have e : sidx (XA p).st s = (((XA p).st.idxOf s : Nat) : Int) := if_pos h3
    rw [← e]
    exact idxP_ok h1 h2.len
  have hil2 : 0 ≤ dstP p s → 0 < (XA p).st.length ∧ (XA p).st.length ≤ 3000 := fun h => by
    obtain ⟨h1, h2, h3⟩ := dstP_st h
    have := List.idxOf_lt_length_iff.2 h3
    have := (XA_whole h1).2.2
    omega
  have hm := fun h : 0 ≤ dstP p s => (XA_whole (dstP_st h).1).1.1.2.1
  unfold sFw at hac hsc
  refine ac_of_awp (N := ⟨_, fun _ => false, fun _ _ => rfl⟩) Try.func60 rfl (by kernel_rfl) Try.ntmps60 (by simp) ?_
  simp only [argsFr, List.zipIdx_cons, List.zipIdx_nil, go_sem]
  repeat' (first | (refine ob4 rfl rfl rfl rfl ?_) | (refine Ob.mk (by have := hil2 (by assumption); omega) ?_) | refine awp_seqK fun K hK => ?_ | (refine awp_regionK 18296423778942671 rfl ?_; simp only [List.map_cons, List.map_nil]; simp (maxSteps := 1000000) (dsimp := false) (implicitDefEqProofs := false) (disch := omega) only [wrap64, go_sem]) | (refine awp_regionQK 18296423778942671 (by kernel_rfl) (by kernel_rfl) (by kernel_rfl) ?_; simp only [List.map_cons, List.map_nil]; simp (maxSteps := 1000000) (dsimp := false) (implicitDefEqProofs := false) (disch := omega) only [wrap64, go_sem]) | refine awp_block ?_ | (refine awp_skip ?_; simp only [go_sem]) | (refine awp_exit ?_; simp only [go_sem]) | (refine awp_ret ?_; try simp only [go_sem]) | (refine awp_condP rfl ?_; try simp only [go_sem]) | (refine BrP.mk (fun h => ?_) (fun h => ?_) <;> try simp (dsimp := false) (disch := omega) only [wrap64]) | (refine Br.mk (fun h => ?_) (fun h => ?_) <;> try simp (dsimp := false) (disch := omega) only [wrap64]) | refine Ob.mk (by first | omega | (intro _ _; rfl) | trivial | (intros; trivial) | assumption | (intro i hi; have h0 : i = 0 := (by omega); subst h0; first | rfl | trivial) | (intro i hi; have h0 : i = 0 ∨ i = 1 := (by omega); rcases h0 with rfl | rfl <;> rfl) | (intro i hi; have h0 : i = 0 ∨ i = 1 ∨ i = 2 := (by omega); rcases h0 with rfl | rfl | rfl <;> rfl)) ?_ | ((first | (refine cR (hac := hac) (hK := ?_) (hs := hsc)) | ((first | refine atF (f := 108) ?_ | refine atQ (f := 108) ?_); (first | (refine cV (hac := inRange_ok n 0 12) (hK := ?_)) | (refine cQV (hac := inRange_ok n 0 12) (hK := ?_)))) | ((first | refine atF (f := 109) ?_ | refine atQ (f := 109) ?_); (first | (refine cFI (hac := lettersOf_ok p (by have := hm (by assumption); omega) 31) (hK := ?_)) | (refine cQI (hac := lettersOf_ok p (by have := hm (by assumption); omega) 31) (hK := ?_))))); simp (maxSteps := 1000000) (dsimp := false) (implicitDefEqProofs := false) (disch := omega) only [wrap64, go_sem]) | apply_assumption -exfalso -symm)
  all_goals (first | (show endQ _ _ _ _ _ _ _; (repeat (rename (∀ (A : Fr) (H : Hp), AWP _ _ _ _ A H → _) => hK; clear hK)); (repeat (rename (Fr → Hp → Prop) => K; clear K))) | (show Exists _; (repeat (rename (∀ (A : Fr) (H : Hp), AWP _ _ _ _ A H → _) => hK; clear hK)); (repeat (rename (Fr → Hp → Prop) => K; clear K))) | skip)
  · have hd0 := (by assumption : 0 ≤ dstP p s)
    obtain ⟨hX, h2, h3⟩ := dstP_st hd0
    obtain ⟨hz, hw, hx⟩ := XA_whole hX
    have hsp : scP p s n = ((XA p).sol (XA p).st.length n.toNat).getD ((XA p).st.idxOf s) 0 := if_pos ⟨hd0, (by assumption : 0 ≤ n ∧ n ≤ 12)⟩
    have hni0 := hni0 hd0
    have hil := List.idxOf_lt_length_iff.2 h3
    have hsm := fun {t} (ht : t ≤ 11) => sol_small hX ht
    have hnr := fun {k} (hk : k < (XA p).st.length) => (hw.nx k hk).1
    have hm := hz.1.2.1
    have hlm := lsP_length p
    have hll := lets_length p.m.length
    have hs0 := sol_0 (B := XA p) hw.pos
    have hnn := fun {k} (hk : k < (XA p).st.length) i (hi : i < (lsP p).length) => nb_nx hX (Go.Pm.mem_getD hk) hi
    have hns := fun {k} (hk : k < (XA p).st.length) i (hi : i < (lsP p).length) => nb_st hX (Go.Pm.mem_getD hk) hi
    have hni := fun {k} (hk : k < (XA p).st.length) i (hi : i < (lsP p).length) => nb_idx hX (Go.Pm.mem_getD hk) hi
    have hst : ∀ {q}, q < (XA p).st.length → _ := fun hq => isSt_rng (XA_isSt hX (Go.Pm.mem_getD hq))
    have hid := fun {q} (hq : q < (XA p).st.length) => hw.idx hq
    clear hw hac hsc hm hil2
    have hm := hz.1.2.1
    obtain ⟨x0, hx0⟩ : ∃ x0, x0 = (XA p).st.idxOf s := ⟨_, rfl⟩
    rw [← hx0] at hsp hni0 hil
    obtain ⟨Q, hQ⟩ : ∃ Q, Q = (XA p).st.length := ⟨_, rfl⟩
    have hpos : 0 < Q := by omega
    refine awp_loop (ι := Nat) (fun t => [(11, .own 35 0 1 Q), (10, .list false 1 (lets p.m.length).length (cM iv 0 (lets p.m.length))), (7, .ref 7 0), (3, .ref 3 0), (2, .v (.int .i64 (n - (t : Int)))), (1, .list false 1 (s).length (cM iv 0 (s)))]) (fun t => (((Hp.emp.upd 3 (.cells 3 (vecF [.v (.int .i64 (p.n)), .v (.string (p.s)), .list false 1 (p.m).length (cM ints [] (p.m))]))).upd 7 (.cells 4 (vecF [.list false 1 ((XA p).st).length (cM ints [] ((XA p).st)), .list false 1 ((XA p).dp).length (cM iv 0 ((XA p).dp)), .list false 1 (sorts (XA p).st).length (cM iv 0 (sorts (XA p).st)), .v (.bool ((XS p).isSome))]))).upd 35 (.cells Q (cM iv 0 ((XA p).sol Q t))))) (fun t => (t : Int) ≤ n) (fun t => n.toNat - t) 0 (by omega) (Sub.toL (by rw [hQ]; exact (by simp only [go_sem] <;> first | trivial | (simp only [Option.some.injEq, AV.v.injEq, AV.own.injEq, AV.list.injEq, Value.int.injEq, Value.bool.injEq, true_and, and_true]; first | omega | (simp; done)) | (simp; done) | (simp; omega))) (by rw [hQ]; exact Hp.le_upd (by show some (Blk.cells _ _) = _; rw [hs0]) (Hp.le_upd rfl (Hp.le_upd rfl (Hp.le_emp _))))) ?_
    intro t ht
    have hcl := (XA p).sol_length hpos t
    have hsm := fun h => hsm (t := t) h
    have hse := (XA p).soz_end Q t
    rw [← hQ] at hsm
    obtain ⟨c, hc⟩ : ∃ c, c = (XA p).sol Q t := ⟨_, rfl⟩
    rw [← hc] at hcl hsm hse ⊢
    repeat' (first | (refine ob4 rfl rfl rfl rfl ?_) | refine awp_seqK fun K hK => ?_ | (refine awp_regionK 18296423778942671 rfl ?_; simp only [List.map_cons, List.map_nil]; simp (maxSteps := 1000000) (dsimp := false) (implicitDefEqProofs := false) (disch := omega) only [wrap64, go_sem]) | (refine awp_regionQK 18296423778942671 (by kernel_rfl) (by kernel_rfl) (by kernel_rfl) ?_; simp only [List.map_cons, List.map_nil]; simp (maxSteps := 1000000) (dsimp := false) (implicitDefEqProofs := false) (disch := omega) only [wrap64, go_sem]) | refine awp_block ?_ | (refine awp_skip ?_; simp only [go_sem]) | (refine awp_exit ?_; simp only [go_sem]) | (refine awp_ret ?_; try simp only [go_sem]) | (refine awp_condP rfl ?_; try simp only [go_sem]) | (refine BrP.mk (fun h => ?_) (fun h => ?_) <;> try simp (dsimp := false) (disch := omega) only [wrap64]) | (refine Br.mk (fun h => ?_) (fun h => ?_) <;> try simp (dsimp := false) (disch := omega) only [wrap64]) | refine Ob.mk (by first | omega | (intro _ _; rfl) | trivial | (intros; trivial) | assumption | (intro i hi; have h0 : i = 0 := (by omega); subst h0; first | rfl | trivial) | (intro i hi; have h0 : i = 0 ∨ i = 1 := (by omega); rcases h0 with rfl | rfl <;> rfl) | (intro i hi; have h0 : i = 0 ∨ i = 1 ∨ i = 2 := (by omega); rcases h0 with rfl | rfl | rfl <;> rfl)) ?_ | ((first | ((first | refine atF (f := 103) ?_ | refine atQ (f := 103) ?_); (first | refine cV (hfit := .cons (fits_slF rfl rfl) (.cons (.refl _) .nil)) (hac := hni0) (hK := ?_) | refine cQV (hfit := .cons (fits_slF rfl rfl) (.cons (.refl _) .nil)) (hac := hni0) (hK := ?_)))); simp (maxSteps := 1000000) (dsimp := false) (implicitDefEqProofs := false) (disch := omega) only [wrap64, go_sem]) | apply_assumption -exfalso -symm)
    all_goals (first | (show endQ _ _ _ _ _ _ _; (repeat (rename (∀ (A : Fr) (H : Hp), AWP _ _ _ _ A H → _) => hK; clear hK)); (repeat (rename (Fr → Hp → Prop) => K; clear K))) | (show Exists _; (repeat (rename (∀ (A : Fr) (H : Hp), AWP _ _ _ _ A H → _) => hK; clear hK)); (repeat (rename (Fr → Hp → Prop) => K; clear K))) | skip)
    · have htn : t ≤ 11 := by have := (by assumption : 0 ≤ n ∧ n ≤ 12); omega
      have hsm := hsm htn
      refine awp_loop (ι := Nat) (fun k => [(13, .v (.int .i64 (k))), (12, .own 44 0 1 Q), (11, .own 35 0 1 Q), (10, .list false 1 (lets p.m.length).length (cM iv 0 (lets p.m.length))), (7, .ref 7 0), (3, .ref 3 0), (2, .v (.int .i64 (n - (t : Int)))), (1, .list false 1 (s).length (cM iv 0 (s)))]) (fun k => ((((Hp.emp.upd 3 (.cells 3 (vecF [.v (.int .i64 (p.n)), .v (.string (p.s)), .list false 1 (p.m).length (cM ints [] (p.m))]))).upd 7 (.cells 4 (vecF [.list false 1 ((XA p).st).length (cM ints [] ((XA p).st)), .list false 1 ((XA p).dp).length (cM iv 0 ((XA p).dp)), .list false 1 (sorts (XA p).st).length (cM iv 0 (sorts (XA p).st)), .v (.bool ((XS p).isSome))]))).upd 35 (.cells Q (cM iv 0 c))).upd 44 (.cells Q (cM iv 0 ((XA p).soz Q c k))))) (fun k => k ≤ Q) (fun k => Q - k) 0 (Nat.zero_le _) (Sub.toL (by simp only [go_sem] <;> first | trivial | (simp only [Option.some.injEq, AV.v.injEq, AV.own.injEq, AV.list.injEq, Value.int.injEq, Value.bool.injEq, true_and, and_true]; first | omega | (simp; done)) | (simp; done) | (simp; omega)) (by rw [Bf.soz_zero]; repeat' (first | exact Hp.le_emp _ | refine Hp.le_upd rfl ?_))) ?_
      intro k hk
      have hnr := fun h => hnr (k := k) h
      have hzl := (XA p).soz_length c hk
      have hz0 := fun h => (XA p).soz_0 c (k := k) (N := Q) h
      have hze := fun h => (XA p).soz_set c (k := k) (N := Q) h
      repeat' (first | refine awp_seqK fun K hK => ?_ | (refine awp_regionK 18296423778942671 rfl ?_; simp only [List.map_cons, List.map_nil]; simp (maxSteps := 1000000) (dsimp := false) (implicitDefEqProofs := false) (disch := omega) only [wrap64, go_sem]) | (refine awp_regionQK 18296423778942671 (by kernel_rfl) (by kernel_rfl) (by kernel_rfl) ?_; simp only [List.map_cons, List.map_nil]; simp (maxSteps := 1000000) (dsimp := false) (implicitDefEqProofs := false) (disch := omega) only [wrap64, go_sem]) | refine awp_block ?_ | (refine awp_skip ?_; simp only [go_sem]) | (refine awp_exit ?_; simp only [go_sem]) | (refine awp_ret ?_; try simp only [go_sem]) | (refine awp_condP rfl ?_; try simp only [go_sem]) | (refine BrP.mk (fun h => ?_) (fun h => ?_) <;> try simp (dsimp := false) (disch := omega) only [wrap64]) | (refine Br.mk (fun h => ?_) (fun h => ?_) <;> try simp (dsimp := false) (disch := omega) only [wrap64]) | refine Ob.mk (by first | omega | (intro _ _; rfl) | trivial | (intros; trivial) | assumption | (intro i hi; have h0 : i = 0 := (by omega); subst h0; first | rfl | trivial) | (intro i hi; have h0 : i = 0 ∨ i = 1 := (by omega); rcases h0 with rfl | rfl <;> rfl) | (intro i hi; have h0 : i = 0 ∨ i = 1 ∨ i = 2 := (by omega); rcases h0 with rfl | rfl | rfl <;> rfl)) ?_ | apply_assumption -exfalso -symm)
      all_goals (first | (show endQ _ _ _ _ _ _ _; (repeat (rename (∀ (A : Fr) (H : Hp), AWP _ _ _ _ A H → _) => hK; clear hK)); (repeat (rename (Fr → Hp → Prop) => K; clear K))) | (show Exists _; (repeat (rename (∀ (A : Fr) (H : Hp), AWP _ _ _ _ A H → _) => hK; clear hK)); (repeat (rename (Fr → Hp → Prop) => K; clear K))) | skip)
      · have hkl : k < (XA p).st.length := by omega
        have hnn := hnn hkl
        have hns := hns hkl
        have hni := hni hkl
        have hst := hst hkl
        have hid := hid hkl
        have hnr := hnr hkl
        rw [hid] at hnn
        obtain ⟨sk, hsk⟩ : ∃ sk, sk = (XA p).st.getD k [] := ⟨_, rfl⟩
        rw [← hsk] at hnn hns hni hst
        obtain ⟨row, hrow⟩ : ∃ row, row = (XA p).nx.getD k [] := ⟨_, rfl⟩
        rw [← hrow] at hnr hnn hze
        refine awp_loop (ι := Nat) (fun j => [(14, .v (.int .i64 (j))), (13, .v (.int .i64 (k))), (12, .own 44 0 1 Q), (11, .own 35 0 1 Q), (10, .list false 1 (lets p.m.length).length (cM iv 0 (lets p.m.length))), (7, .ref 7 0), (3, .ref 3 0), (2, .v (.int .i64 (n - (t : Int)))), (1, .list false 1 (s).length (cM iv 0 (s)))]) (fun j => ((((Hp.emp.upd 3 (.cells 3 (vecF [.v (.int .i64 (p.n)), .v (.string (p.s)), .list false 1 (p.m).length (cM ints [] (p.m))]))).upd 7 (.cells 4 (vecF [.list false 1 ((XA p).st).length (cM ints [] ((XA p).st)), .list false 1 ((XA p).dp).length (cM iv 0 ((XA p).dp)), .list false 1 (sorts (XA p).st).length (cM iv 0 (sorts (XA p).st)), .v (.bool ((XS p).isSome))]))).upd 35 (.cells Q (cM iv 0 c))).upd 44 (.cells Q (cM iv 0 (((XA p).soz Q c k).set k (sumS c (row.take j))))))) (fun j => j ≤ row.length) (fun j => row.length - j) 0 (Nat.zero_le _) (Sub.toL (by simp only [go_sem] <;> first | trivial | (simp only [Option.some.injEq, AV.v.injEq, AV.own.injEq, AV.list.injEq, Value.int.injEq, Value.bool.injEq, true_and, and_true]; first | omega | (simp; done)) | (simp; done) | (simp; omega)) (by rw [List.take_zero, Go.Pm.sumS_nil, hz0 (by omega)]; repeat' (first | exact Hp.le_emp _ | refine Hp.le_upd rfl ?_))) ?_
        intro j hj
        have hl1 := lets_inL p.m j
        have hni := fun h => hni j h
        have hnb : comp sk (letP p.m ((lets p.m.length).getD j 0)) = nbP p sk j := rfl
        have hxl : j < (lsP p).length → (XA p).st.idxOf (nbP p sk j) < (XA p).st.length := fun h => List.idxOf_lt_length_iff.2 (hns j h)
        obtain ⟨x, hx⟩ : ∃ x, x = (XA p).st.idxOf (nbP p sk j) := ⟨_, rfl⟩
        have hnn := hnn j
        rw [← hx] at hni hxl hnn
        have hsz : (((XA p).soz Q c k).set k (sumS c (row.take j))).length = Q := by rw [List.length_set]; exact hzl
        have hat := (XA p).soz_at c (sumS c (row.take j)) (show k < Q by omega)
        have hb1 := hsm x
        have hb2 := Go.Pm.sumS_bd hsm (row.take j)
        rw [List.length_take] at hb2
        repeat' (first | (refine ob4 rfl rfl rfl rfl ?_) | (refine awp_regionEK (id := 17) 18296423778942671 11 (by kernel_rfl) (by kernel_rfl) (by kernel_rfl) ?_; simp only [List.map_cons, List.map_nil, opsE, List.take_succ_cons, List.take_zero, List.drop_succ_cons, List.drop_zero]; simp (maxSteps := 1000000) (dsimp := false) (implicitDefEqProofs := false) (disch := omega) only [wrap64, go_sem, hat, hsk.symm, hnb]) | refine awp_seqK fun K hK => ?_ | (refine awp_regionK 18296423778942671 rfl ?_; simp only [List.map_cons, List.map_nil]; simp (maxSteps := 1000000) (dsimp := false) (implicitDefEqProofs := false) (disch := omega) only [wrap64, go_sem, hat, hsk.symm, hnb]) | (refine awp_regionQK 18296423778942671 (by kernel_rfl) (by kernel_rfl) (by kernel_rfl) ?_; simp only [List.map_cons, List.map_nil]; simp (maxSteps := 1000000) (dsimp := false) (implicitDefEqProofs := false) (disch := omega) only [wrap64, go_sem, hat, hsk.symm, hnb]) | refine awp_block ?_ | (refine awp_skip ?_; simp only [go_sem, hat, hsk.symm, hnb]) | (refine awp_exit ?_; simp only [go_sem, hat, hsk.symm, hnb]) | (refine awp_ret ?_; try simp only [go_sem, hat, hsk.symm, hnb]) | (refine awp_condP rfl ?_; try simp only [go_sem, hat, hsk.symm, hnb]) | (refine BrP.mk (fun h => ?_) (fun h => ?_) <;> try simp (dsimp := false) (disch := omega) only [wrap64]) | (refine Br.mk (fun h => ?_) (fun h => ?_) <;> try simp (dsimp := false) (disch := omega) only [wrap64]) | refine Ob.mk (by first | omega | (intro _ _; rfl) | trivial | (intros; trivial) | assumption | (intro i hi; have h0 : i = 0 := (by omega); subst h0; first | rfl | trivial) | (intro i hi; have h0 : i = 0 ∨ i = 1 := (by omega); rcases h0 with rfl | rfl <;> rfl) | (intro i hi; have h0 : i = 0 ∨ i = 1 ∨ i = 2 := (by omega); rcases h0 with rfl | rfl | rfl <;> rfl)) ?_ | ((first | ((first | refine atF (f := 110) ?_ | refine atQ (f := 110) ?_); (first | (refine cFI (hac := applyLetter_ok p sk ((lets p.m.length).getD j 0) hz (hl1 (by omega)) (by omega) (fun j hj => by have := hst.2 j hj; omega) 25) (hK := ?_)) | (refine cQI (hac := applyLetter_ok p sk ((lets p.m.length).getD j 0) hz (hl1 (by omega)) (by omega) (fun j hj => by have := hst.2 j hj; omega) 25) (hK := ?_)))) | ((first | refine atF (f := 103) ?_ | refine atQ (f := 103) ?_); (first | refine cV (hfit := .cons (fits_slF rfl rfl) (.cons (.refl _) .nil)) (hac := hni (by omega)) (hK := ?_) | refine cQV (hfit := .cons (fits_slF rfl rfl) (.cons (.refl _) .nil)) (hac := hni (by omega)) (hK := ?_)))); simp (maxSteps := 1000000) (dsimp := false) (implicitDefEqProofs := false) (disch := omega) only [wrap64, go_sem, hat, hsk.symm, hnb]) | apply_assumption -exfalso -symm)
        all_goals (first | (show endQ _ _ _ _ _ _ _; (repeat (rename (∀ (A : Fr) (H : Hp), AWP _ _ _ _ A H → _) => hK; clear hK)); (repeat (rename (Fr → Hp → Prop) => K; clear K))) | (show Exists _; (repeat (rename (∀ (A : Fr) (H : Hp), AWP _ _ _ _ A H → _) => hK; clear hK)); (repeat (rename (Fr → Hp → Prop) => K; clear K))) | skip)
        · refine ⟨j + 1, by omega, by omega, ?_⟩
          rw [List.set_set, Go.Pm.take_snoc (by omega), Go.Pm.sumS_snoc, hnn (by omega), Int.toNat_natCast]
          exact Sub.toL (by simp only [go_sem] <;> first | trivial | (simp only [Option.some.injEq, AV.v.injEq, AV.own.injEq, AV.list.injEq, Value.int.injEq, Value.bool.injEq, true_and, and_true]; first | omega | (simp; done)) | (simp; done) | (simp; omega)) (by (repeat' (first | exact Hp.le_emp _ | exact Hp.le_refl _ | refine Hp.le_upd ?_ ?_)); all_goals (first | rfl | (simp only [go_sem]; first | rfl | (refine cellsE ?_ ?_ <;> (simp)) | (simp))))
        · have e : j = row.length := by omega
          refine ⟨k + 1, by omega, by omega, ?_⟩
          rw [e, List.take_length, hze (by omega)]
          exact Sub.toL (by simp only [go_sem] <;> first | trivial | (simp only [Option.some.injEq, AV.v.injEq, AV.own.injEq, AV.list.injEq, Value.int.injEq, Value.bool.injEq, true_and, and_true]; first | omega | (simp; done)) | (simp; done) | (simp; omega)) (by (repeat' (first | exact Hp.le_emp _ | exact Hp.le_refl _ | refine Hp.le_upd ?_ ?_)); all_goals (first | rfl | (simp only [go_sem]; first | rfl | (refine cellsE ?_ ?_ <;> (simp)) | (simp))))
      · have e : k = Q := by omega
        refine ⟨t + 1, by omega, by omega, ?_⟩
        rw [e, hse, show n - ((t + 1 : Nat) : Int) = n - (t : Int) - 1 by omega]
        refine Sub.layM (rhoC 35 44) rfl (lay_cons ⟨_, rfl, .own rfl⟩ (lay_cons ⟨_, rfl, .plain trivial⟩ (lay_cons ⟨_, rfl, .ref rfl⟩ (lay_cons ⟨_, rfl, .ref rfl⟩ (lay_cons ⟨_, rfl, .plain trivial⟩ (lay_cons ⟨_, rfl, .plain trivial⟩ lay_nil)))))) ?_ (fun x y k hx hy h1 h2 => rhoC_inj h1 h2)
        exact layF_upd (g := 44) (n := Q) rfl rfl (fun i hi => .plain trivial) (srch_lay rfl rfl (by repeat' (first | exact Hp.le_emp _ | refine Hp.le_upd rfl ?_)) (by decide))
    · refine end_retN rfl rfl ?_
      rw [hsp, hc, show n.toNat = t by omega, hQ]
  · exact end_retN rfl rfl (if_neg fun k => absurd k.2 (by assumption)).symm
  · exact end_retN rfl rfl (if_neg fun k => absurd k.1 (by assumption)).symm
end Go.Proofs.Ytdllbnchcjgcdaa
