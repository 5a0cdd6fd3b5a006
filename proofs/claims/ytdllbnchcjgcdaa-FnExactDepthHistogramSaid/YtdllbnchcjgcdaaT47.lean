import Derived.Test.YtdllbnchcjgcdaaT46
import Derived.Test.YtdllbnchcjgcdaaC8
/- How many states lie at each depth. -/
namespace Go.Proofs.Ytdllbnchcjgcdaa
open Go.Av
set_option linter.unusedSimpArgs false
set_option linter.unusedVariables false
attribute [local irreducible] AWP CallG Ob Br BrP Go.Av.Sub endQ AOps OpV AC thenA blkA opsVC opVC withA withArgs opsQ opQ CallQ withA2 withArgs2
open Go.Pm (Pm comp invp idn img Gen Bf srch sorts srtN Srt slot sidx insAt)
/-- How often each of the first n numbers stands in a row. -/
def hst (dp : List Int) (n : Nat) : List Int := (List.range n).map fun d => ((dp.count ((d : Nat) : Int) : Nat) : Int)
theorem hst_length (dp : List Int) (n : Nat) : (hst dp n).length = n := by simp [hst]
theorem hst_get (dp : List Int) {n d : Nat} (h : d < n) : (hst dp n).getD d 0 = (dp.count ((d : Nat) : Int) : Nat) := by
  simp [hst, List.getD_eq_getElem?_getD, h]
theorem hst_more {dp : List Int} {n : Nat} (h : ∀ x ∈ dp, x < n) : hst dp n ++ [0] = hst dp (n + 1) := by
  unfold hst
  rw [List.range_succ, List.map_append]
  congr 1
  simp only [List.map_cons, List.map_nil, List.cons.injEq, and_true]
  rw [List.count_eq_zero.2 (fun k => by have := h _ k; omega)]; rfl
theorem hst_put {dp : List Int} {n : Nat} {x : Int} (h0 : 0 ≤ x) (h1 : x.toNat < n) : (hst dp n).set x.toNat ((hst dp n).getD x.toNat 0 + 1) = hst (dp ++ [x]) n := by
  refine List.ext_getElem (by simp [hst]) fun i hi hj => ?_
  simp only [hst_get dp h1, List.getElem_set]
  simp only [hst, List.length_map, List.length_range] at hj
  split
  · rename_i e; subst e
    simp only [hst, List.getElem_map, List.getElem_range, List.count_append, List.count_singleton]
    rw [show ((x.toNat : Nat) : Int) = x by omega]
    simp
  · rename_i e
    have e2 : ¬ x = ((i : Nat) : Int) := by omega
    have e3 : (x == ((i : Nat) : Int)) = false := beq_eq_false_iff_ne.2 e2
    simp only [hst, List.getElem_map, List.getElem_range, List.count_append, List.count_singleton, e3]
    simp
theorem hst_rng (dp : List Int) (n k : Nat) : 0 ≤ (hst dp n).getD k 0 ∧ (hst dp n).getD k 0 ≤ dp.length := by
  by_cases h : k < n
  · rw [hst_get dp h]
    have := List.count_le_length (a := ((k : Nat) : Int)) (l := dp)
    omega
  · rw [List.getD_eq_getElem?_getD, List.getElem?_eq_none (by rw [hst_length]; omega)]; simp
theorem hst_zero (n : Nat) : hst [] n = List.replicate n 0 := by
  unfold hst
  refine List.ext_getElem (by simp) fun i hi hj => by simp
/-- The lengths of the row of counts behind i states. -/
def hLen (dp : List Int) (i : Nat) : Nat := if i = 0 then 0 else (dp.getD (i - 1) 0).toNat + 1
/-- How many states lie at each depth. -/
noncomputable def hisP (p : Pz) : List Int := if (XS p).isSome = true then hst (XA p).dp (hLen (XA p).dp (XA p).dp.length) else []
theorem take_lt {dp : List Int} (h : ∀ i j, i ≤ j → j < dp.length → dp.getD i 0 ≤ dp.getD j 0) (h0 : ∀ j, j < dp.length → 0 ≤ dp.getD j 0) {i : Nat} (hi : i ≤ dp.length) : ∀ x ∈ dp.take i, x < hLen dp i := fun x hx => by
  obtain ⟨j, hj, rfl⟩ := List.mem_iff_getElem.1 hx
  rw [List.length_take] at hj
  have h1 := h j (i - 1) (by omega) (by omega)
  have h2 := h0 (i - 1) (by omega)
  rw [List.getElem_take]
  rw [List.getD_eq_getElem?_getD, List.getElem?_eq_getElem (show j < dp.length by omega)] at h1
  simp only [Option.getD_some] at h1
  unfold hLen
  rw [if_neg (by omega)]; omega
theorem hLen_le {dp : List Int} (h : ∀ i j, i ≤ j → j < dp.length → dp.getD i 0 ≤ dp.getD j 0) (h0 : ∀ j, j < dp.length → 0 ≤ dp.getD j 0 ∧ dp.getD j 0 ≤ j) {i : Nat} (hi : i < dp.length) : hLen dp i ≤ (dp.getD i 0).toNat + 1 ∧ hLen dp (i + 1) = (dp.getD i 0).toNat + 1 ∧ (dp.getD i 0).toNat ≤ i := by
  have h1 := h (i - 1) i (by omega) hi
  have h2 := h0 i hi
  unfold hLen
  rw [if_neg (show ¬ i + 1 = 0 by omega), Nat.add_sub_cancel]
  refine ⟨?_, rfl, by omega⟩
  split <;> omega
theorem specDepthHistogram_ok (p : Pz) (d : Nat) : AC Try.prog 52 [pz p] Hp.emp (fun _ => false) (retI d (hisP p)) := by
  have hac := searchStates_ok p
  have hsc := XAt_scrub p (fun _ => true) (XS p).isSome
  obtain ⟨hb1, hb2⟩ := XA_basic p
  have hmo : (XS p).isSome = true → (∀ i j, i ≤ j → j < (XA p).dp.length → (XA p).dp.getD i 0 ≤ (XA p).dp.getD j 0) ∧ (∀ j, j < (XA p).dp.length → 0 ≤ (XA p).dp.getD j 0 ∧ (XA p).dp.getD j 0 ≤ j) := fun h => by
    obtain ⟨hz, hw, hx⟩ := XA_whole h
    exact ⟨fun i j h1 h2 => hw.mono i j h1 (by omega), fun j h1 => hw.le j (by omega)⟩
  unfold sFw at hac hsc
  refine ac_of_awp (N := ⟨_, fun _ => false, fun _ _ => rfl⟩) Try.func52 rfl (by kernel_rfl) Try.ntmps52 (by simp) ?_
  simp only [argsFr, List.zipIdx_cons, List.zipIdx_nil, go_sem]
  repeat' (first | (refine ob4 rfl rfl rfl rfl ?_) | refine awp_seqK fun K hK => ?_ | (refine awp_regionK 1074806911 rfl ?_; simp only [List.map_cons, List.map_nil]; simp (maxSteps := 1000000) (dsimp := false) (implicitDefEqProofs := false) (disch := omega) only [wrap64, go_sem]) | (refine awp_regionQK 1074806911 (by kernel_rfl) (by kernel_rfl) (by kernel_rfl) ?_; simp only [List.map_cons, List.map_nil]; simp (maxSteps := 1000000) (dsimp := false) (implicitDefEqProofs := false) (disch := omega) only [wrap64, go_sem]) | refine awp_block ?_ | (refine awp_skip ?_; simp only [go_sem]) | (refine awp_exit ?_; simp only [go_sem]) | (refine awp_ret ?_; try simp only [go_sem]) | (refine awp_condP rfl ?_; try simp only [go_sem]) | (refine BrP.mk (fun h => ?_) (fun h => ?_) <;> try simp (dsimp := false) (disch := omega) only [wrap64]) | (refine Br.mk (fun h => ?_) (fun h => ?_) <;> try simp (dsimp := false) (disch := omega) only [wrap64]) | refine Ob.mk (by first | omega | (intro _ _; rfl) | trivial | (intros; trivial) | assumption | (intro i hi; have h0 : i = 0 := (by omega); subst h0; first | rfl | trivial) | (intro i hi; have h0 : i = 0 ∨ i = 1 := (by omega); rcases h0 with rfl | rfl <;> rfl) | (intro i hi; have h0 : i = 0 ∨ i = 1 ∨ i = 2 := (by omega); rcases h0 with rfl | rfl | rfl <;> rfl)) ?_ | ((first | (refine cR (hac := hac) (hK := ?_) (hs := hsc))); simp (maxSteps := 1000000) (dsimp := false) (implicitDefEqProofs := false) (disch := omega) only [wrap64, go_sem]) | apply_assumption -exfalso -symm)
  all_goals (first | (show endQ _ _ _ _ _ _ _; (repeat (rename (∀ (A : Fr) (H : Hp), AWP _ _ _ _ A H → _) => hK; clear hK)); (repeat (rename (Fr → Hp → Prop) => K; clear K))) | (show Exists _; (repeat (rename (∀ (A : Fr) (H : Hp), AWP _ _ _ _ A H → _) => hK; clear hK)); (repeat (rename (Fr → Hp → Prop) => K; clear K))) | skip)
  · obtain ⟨hm1, hm2⟩ := hmo (by assumption)
    have hsome := (by assumption : (XS p).isSome = true)
    obtain ⟨D, hD⟩ : ∃ D, D = (XA p).dp := ⟨_, rfl⟩
    have hhis : hisP p = hst D (hLen D D.length) := by unfold hisP; rw [if_pos hsome, hD]
    rw [← hD] at hm1 hm2 hb2 ⊢
    have hm0 : ∀ j, j < D.length → 0 ≤ D.getD j 0 := fun j hj => (hm2 j hj).1
    clear hac hsc hmo
    have hm1' : Hold (∀ i j, i ≤ j → j < D.length → D.getD i 0 ≤ D.getD j 0) := ⟨hm1⟩
    have hm2' : Hold (∀ j, j < D.length → 0 ≤ D.getD j 0 ∧ D.getD j 0 ≤ j) := ⟨hm2⟩
    have hm0' : Hold (∀ j, j < D.length → 0 ≤ D.getD j 0) := ⟨hm0⟩
    clear hm1 hm2 hm0
    refine awp_loop (ι := Nat) (fun i => [(6, .v (.int .i64 (i))), (4, .ref 4 0), (3, .own 7 0 1 (hst (D.take i) (hLen D i)).length)]) (fun i => ((Hp.emp.upd 7 (.cells (hst (D.take i) (hLen D i)).length (cM iv 0 (hst (D.take i) (hLen D i))))).upd 4 (.cells 4 (vecF [.list false 1 ((XA p).st).length (cM ints [] ((XA p).st)), .list false 1 (D).length (cM iv 0 (D)), .list false 1 (sorts (XA p).st).length (cM iv 0 (sorts (XA p).st)), .v (.bool ((XS p).isSome))])))) (fun i => i ≤ D.length) (fun i => D.length - i) 0 (Nat.zero_le _) (Sub.toL (by simp only [go_sem] <;> first | trivial | (simp only [Option.some.injEq, AV.v.injEq, AV.own.injEq, AV.list.injEq, Value.int.injEq, Value.bool.injEq, true_and, and_true]; first | omega | (simp; done)) | (simp; done) | (simp; omega)) (by (repeat' (first | exact Hp.le_emp _ | exact Hp.le_refl _ | refine Hp.le_upd ?_ ?_)); all_goals (first | rfl | (simp only [go_sem]; first | rfl | (refine cellsE ?_ ?_ <;> (simp)) | (simp))))) ?_
    intro i hi
    have hx := fun h : i < D.length => hLen_le hm1'.h hm2'.h h
    have htk := take_lt hm1'.h hm0'.h hi
    have hlh := hst_length (D.take i) (hLen D i)
    have htk' : Hold _ := ⟨htk⟩
    clear htk
    repeat' (first | (refine ob4 rfl rfl rfl rfl ?_) | refine awp_seqK fun K hK => ?_ | (refine awp_regionK 1074806911 rfl ?_; simp only [List.map_cons, List.map_nil]; simp (maxSteps := 1000000) (dsimp := false) (implicitDefEqProofs := false) (disch := omega) only [wrap64, go_sem]) | (refine awp_regionQK 1074806911 (by kernel_rfl) (by kernel_rfl) (by kernel_rfl) ?_; simp only [List.map_cons, List.map_nil]; simp (maxSteps := 1000000) (dsimp := false) (implicitDefEqProofs := false) (disch := omega) only [wrap64, go_sem]) | refine awp_block ?_ | (refine awp_skip ?_; simp only [go_sem]) | (refine awp_exit ?_; simp only [go_sem]) | (refine awp_ret ?_; try simp only [go_sem]) | (refine awp_condP rfl ?_; try simp only [go_sem]) | (refine BrP.mk (fun h => ?_) (fun h => ?_) <;> try simp (dsimp := false) (disch := omega) only [wrap64]) | (refine Br.mk (fun h => ?_) (fun h => ?_) <;> try simp (dsimp := false) (disch := omega) only [wrap64]) | refine Ob.mk (by first | omega | (intro _ _; rfl) | trivial | (intros; trivial) | assumption | (intro i hi; have h0 : i = 0 := (by omega); subst h0; first | rfl | trivial) | (intro i hi; have h0 : i = 0 ∨ i = 1 := (by omega); rcases h0 with rfl | rfl <;> rfl) | (intro i hi; have h0 : i = 0 ∨ i = 1 ∨ i = 2 := (by omega); rcases h0 with rfl | rfl | rfl <;> rfl)) ?_ | apply_assumption -exfalso -symm)
    all_goals (first | (show endQ _ _ _ _ _ _ _; (repeat (rename (∀ (A : Fr) (H : Hp), AWP _ _ _ _ A H → _) => hK; clear hK)); (repeat (rename (Fr → Hp → Prop) => K; clear K))) | (show Exists _; (repeat (rename (∀ (A : Fr) (H : Hp), AWP _ _ _ _ A H → _) => hK; clear hK)); (repeat (rename (Fr → Hp → Prop) => K; clear K))) | skip)
    · obtain ⟨hx1, hx2, hx3⟩ := hx (by omega)
      refine awp_loop (ι := Nat) (fun L => [(6, .v (.int .i64 (i))), (4, .ref 4 0), (3, .own 7 0 1 (hst (D.take i) L).length)]) (fun L => ((Hp.emp.upd 7 (.cells (hst (D.take i) L).length (cM iv 0 (hst (D.take i) L)))).upd 4 (.cells 4 (vecF [.list false 1 ((XA p).st).length (cM ints [] ((XA p).st)), .list false 1 (D).length (cM iv 0 (D)), .list false 1 (sorts (XA p).st).length (cM iv 0 (sorts (XA p).st)), .v (.bool ((XS p).isSome))])))) (fun L => hLen D i ≤ L ∧ L ≤ (D.getD i 0).toNat + 1) (fun L => (D.getD i 0).toNat + 1 - L) (hLen D i) ⟨Nat.le_refl _, hx1⟩ (Sub.toL (by simp only [go_sem] <;> first | trivial | (simp only [Option.some.injEq, AV.v.injEq, AV.own.injEq, AV.list.injEq, Value.int.injEq, Value.bool.injEq, true_and, and_true]; first | omega | (simp; done)) | (simp; done) | (simp; omega)) (by (repeat' (first | exact Hp.le_emp _ | exact Hp.le_refl _ | refine Hp.le_upd ?_ ?_)); all_goals (first | rfl | (simp only [go_sem]; first | rfl | (refine cellsE ?_ ?_ <;> (simp)) | (simp))))) ?_
      rintro L ⟨hL1, hL2⟩
      have hL := hst_length (D.take i) L
      have hDi := (hm2'.h i (by omega)).1
      have hcb := hst_rng (D.take i) L (D.getD i 0).toNat
      rw [List.length_take] at hcb
      repeat' (first | (refine ob4 rfl rfl rfl rfl ?_) | refine awp_seqK fun K hK => ?_ | (refine awp_regionK 1074806911 rfl ?_; simp only [List.map_cons, List.map_nil]; simp (maxSteps := 1000000) (dsimp := false) (implicitDefEqProofs := false) (disch := omega) only [wrap64, go_sem]) | (refine awp_regionQK 1074806911 (by kernel_rfl) (by kernel_rfl) (by kernel_rfl) ?_; simp only [List.map_cons, List.map_nil]; simp (maxSteps := 1000000) (dsimp := false) (implicitDefEqProofs := false) (disch := omega) only [wrap64, go_sem]) | refine awp_block ?_ | (refine awp_skip ?_; simp only [go_sem]) | (refine awp_exit ?_; simp only [go_sem]) | (refine awp_ret ?_; try simp only [go_sem]) | (refine awp_condP rfl ?_; try simp only [go_sem]) | (refine BrP.mk (fun h => ?_) (fun h => ?_) <;> try simp (dsimp := false) (disch := omega) only [wrap64]) | (refine Br.mk (fun h => ?_) (fun h => ?_) <;> try simp (dsimp := false) (disch := omega) only [wrap64]) | refine Ob.mk (by first | omega | (intro _ _; rfl) | trivial | (intros; trivial) | assumption | (intro i hi; have h0 : i = 0 := (by omega); subst h0; first | rfl | trivial) | (intro i hi; have h0 : i = 0 ∨ i = 1 := (by omega); rcases h0 with rfl | rfl <;> rfl) | (intro i hi; have h0 : i = 0 ∨ i = 1 ∨ i = 2 := (by omega); rcases h0 with rfl | rfl | rfl <;> rfl)) ?_ | apply_assumption -exfalso -symm)
      all_goals (first | (show endQ _ _ _ _ _ _ _; (repeat (rename (∀ (A : Fr) (H : Hp), AWP _ _ _ _ A H → _) => hK; clear hK)); (repeat (rename (Fr → Hp → Prop) => K; clear K))) | (show Exists _; (repeat (rename (∀ (A : Fr) (H : Hp), AWP _ _ _ _ A H → _) => hK; clear hK)); (repeat (rename (Fr → Hp → Prop) => K; clear K))) | skip)
      · refine ⟨L + 1, ⟨by omega, by omega⟩, by omega, ?_⟩
        rw [← hst_more (fun x hx => by have := htk'.h x hx; omega)]
        exact Sub.toL (by simp only [go_sem] <;> first | trivial | (simp only [Option.some.injEq, AV.v.injEq, AV.own.injEq, AV.list.injEq, Value.int.injEq, Value.bool.injEq, true_and, and_true]; first | omega | (simp; done)) | (simp; done) | (simp; omega)) (by (repeat' (first | exact Hp.le_emp _ | exact Hp.le_refl _ | refine Hp.le_upd ?_ ?_)); all_goals (first | rfl | (simp only [go_sem]; first | rfl | (refine cellsE ?_ ?_ <;> (simp)) | (simp))))
      · refine ⟨i + 1, by omega, by omega, ?_⟩
        have e2 : L = (D.getD i 0).toNat + 1 := by omega
        have e3 : hst (D.take (i + 1)) (hLen D (i + 1)) = (hst (D.take i) L).set (D.getD i 0).toNat ((hst (D.take i) L).getD (D.getD i 0).toNat 0 + 1) := by
          rw [hst_put hDi (by omega), hx2, e2]
          congr 1
          rw [List.take_succ_eq_append_getElem (show i < D.length by omega), List.getD_eq_getElem?_getD, List.getElem?_eq_getElem (show i < D.length by omega)]; rfl
        rw [e3]
        exact Sub.toL (by simp only [go_sem] <;> first | trivial | (simp only [Option.some.injEq, AV.v.injEq, AV.own.injEq, AV.list.injEq, Value.int.injEq, Value.bool.injEq, true_and, and_true]; first | omega | (simp; done)) | (simp; done) | (simp; omega)) (by (repeat' (first | exact Hp.le_emp _ | exact Hp.le_refl _ | refine Hp.le_upd ?_ ?_)); all_goals (first | rfl | (simp only [go_sem]; first | rfl | (refine cellsE ?_ ?_ <;> (simp)) | (simp))))
    · have e : i = D.length := by omega
      subst e
      rw [List.take_length, ← hhis]
      exact end_retI' rfl rfl rfl rfl rfl rfl
  · have e : hisP p = [] := by unfold hisP; rw [if_neg (by simp [*])]
    rw [e]
    exact end_retI' rfl rfl rfl rfl rfl rfl
theorem implDepthHistogram_ok (p : Pz) (hs0 : p.s.size ≤ 140737488355328) (d : Nat) : AC Try.prog 53 [pz p] Hp.emp (fun _ => false) (retI d (hisP p)) := by
  obtain ⟨hb1, hb2⟩ := XA_basic p
  have hmo : (XS p).isSome = true → 0 < (XA p).dp.length ∧ (∀ i j, i ≤ j → j < (XA p).dp.length → (XA p).dp.getD i 0 ≤ (XA p).dp.getD j 0) ∧ (∀ j, j < (XA p).dp.length → 0 ≤ (XA p).dp.getD j 0 ∧ (XA p).dp.getD j 0 ≤ j) := fun h => by
    obtain ⟨hz, hw, hx⟩ := XA_whole h
    have := hw.pos
    exact ⟨by omega, fun i j h1 h2 => hw.mono i j h1 (by omega), fun j h1 => hw.le j (by omega)⟩
  have hdr : (XS p).isSome = true → 0 ≤ (XA p).dp.getD ((XA p).st.length - 1) 0 ∧ (XA p).dp.getD ((XA p).st.length - 1) 0 ≤ 3000 := fun h => by
    obtain ⟨h1, h2, h3⟩ := hmo h
    have := h3 ((XA p).st.length - 1) (by omega)
    omega
  obtain ⟨v, hv, hv2⟩ : ∃ v : Int, ((XS p).isSome = true → v = (XA p).dp.getD ((XA p).st.length - 1) 0) ∧ 0 ≤ v ∧ v ≤ 3000 := by
    by_cases e : (XS p).isSome = true
    · exact ⟨_, fun _ => rfl, hdr e⟩
    · exact ⟨0, fun h => absurd h e, by omega⟩
  have hd : (XS p).isSome = true → AC Try.prog 100 [.ref 1000000 0] (exH p (XA p)) pM (fun r H => r = .v (.int .i64 (v)) ∧ H = exH p (XA p)) := fun h => by
    rw [hv h]; exact diameter_ok p (XA p) (XA_whole h).2.1.pos hb1 hb2
  clear hdr
  refine ac_of_awp (N := ⟨_, fun _ => false, fun _ _ => rfl⟩) Try.func53 rfl (by kernel_rfl) Try.ntmps53 (by simp) ?_
  simp only [argsFr, List.zipIdx_cons, List.zipIdx_nil, go_sem]
  repeat' (first | ((first | refine atF (f := 99) ?_ | refine atQ (f := 99) ?_); refine callE (explore_ok p hs0) rfl (fun hX => ?_) (fun hX => ?_) <;> simp (maxSteps := 1000000) (dsimp := false) (implicitDefEqProofs := false) (disch := omega) only [wrap64, go_sem, pM_low]) | refine awp_seqK fun K hK => ?_ | (refine awp_regionK 62931135 rfl ?_; simp only [List.map_cons, List.map_nil]; simp (maxSteps := 1000000) (dsimp := false) (implicitDefEqProofs := false) (disch := omega) only [wrap64, go_sem, pM_low]) | (refine awp_regionQK 62931135 (by kernel_rfl) (by kernel_rfl) (by kernel_rfl) ?_; simp only [List.map_cons, List.map_nil]; simp (maxSteps := 1000000) (dsimp := false) (implicitDefEqProofs := false) (disch := omega) only [wrap64, go_sem, pM_low]) | refine awp_block ?_ | (refine awp_skip ?_; simp only [go_sem, pM_low]) | (refine awp_exit ?_; simp only [go_sem, pM_low]) | (refine awp_ret ?_; try simp only [go_sem, pM_low]) | (refine awp_condP rfl ?_; try simp only [go_sem, pM_low]) | (refine BrP.mk (fun h => ?_) (fun h => ?_) <;> try simp (dsimp := false) (disch := omega) only [wrap64]) | (refine Br.mk (fun h => ?_) (fun h => ?_) <;> try simp (dsimp := false) (disch := omega) only [wrap64]) | refine Ob.mk (by first | omega | (intro _ _; rfl) | trivial | (intros; trivial) | assumption | (intro i hi; have h0 : i = 0 := (by omega); subst h0; first | rfl | trivial) | (intro i hi; have h0 : i = 0 ∨ i = 1 := (by omega); rcases h0 with rfl | rfl <;> rfl) | (intro i hi; have h0 : i = 0 ∨ i = 1 ∨ i = 2 := (by omega); rcases h0 with rfl | rfl | rfl <;> rfl)) ?_ | ((first | ((first | refine atF (f := 100) ?_ | refine atQ (f := 100) ?_); refine callPn (Hin := exH p (XA p)) (by unfold exH exR; repeat' (first | exact Hp.le_emp _ | refine Hp.le_upd rfl ?_)) (hd (by assumption)) exH_pM rfl (exH_scrub _ _) ?_)); simp (maxSteps := 1000000) (dsimp := false) (implicitDefEqProofs := false) (disch := omega) only [wrap64, go_sem, pM_low]) | apply_assumption -exfalso -symm)
  all_goals (first | (show endQ _ _ _ _ _ _ _; (repeat (rename (∀ (A : Fr) (H : Hp), AWP _ _ _ _ A H → _) => hK; clear hK)); (repeat (rename (Fr → Hp → Prop) => K; clear K))) | (show Exists _; (repeat (rename (∀ (A : Fr) (H : Hp), AWP _ _ _ _ A H → _) => hK; clear hK)); (repeat (rename (Fr → Hp → Prop) => K; clear K))) | skip)
  · obtain ⟨hpos, hm1, hm2⟩ := hmo (by assumption)
    have hsome := (by assumption : (XS p).isSome = true)
    have hv1 := hv hsome
    obtain ⟨D, hD⟩ : ∃ D, D = (XA p).dp := ⟨_, rfl⟩
    have hhis : hisP p = hst D (v + 1).toNat := by
      unfold hisP hLen
      rw [if_pos hsome, ← hD, if_neg (by rw [hD]; omega), hv1, ← hD, show (XA p).st.length - 1 = D.length - 1 by rw [hD]; omega]
      congr 1
      have := hm2 (D.length - 1) (by rw [← hD]; rw [← hD] at hpos; omega)
      rw [← hD] at this; omega
    rw [← hD] at hm1 hm2 hb2 hpos ⊢
    have hle : ∀ i, i < D.length → 0 ≤ D.getD i 0 ∧ D.getD i 0 ≤ v := fun i hi => by
      have h1 := hm1 i (D.length - 1) (by omega) (by omega)
      rw [hv1, ← hD, show (XA p).st.length - 1 = D.length - 1 by omega]
      exact ⟨(hm2 i hi).1, h1⟩
    have hle' : Hold _ := ⟨hle⟩
    clear hd hmo hm1 hm2 hv hle
    refine awp_loop (ι := Nat) (fun i => [(24, .v (.int .i64 (i))), (23, .v (.int .i64 (D.length))), (22, .list false 1 (D).length (cM iv 0 (D))), (5, .own 18 0 1 (v + 1).toNat)]) (fun i => Hp.emp.upd 18 (.cells (v + 1).toNat (cM iv 0 (hst (D.take i) (v + 1).toNat)))) (fun i => i ≤ D.length) (fun i => D.length - i) 0 (Nat.zero_le _) (Sub.toL (by simp only [go_sem] <;> first | trivial | (simp only [Option.some.injEq, AV.v.injEq, AV.own.injEq, AV.list.injEq, Value.int.injEq, Value.bool.injEq, true_and, and_true]; first | omega | (simp; done)) | (simp; done) | (simp; omega)) (by rw [List.take_zero, hst_zero]; exact Hp.le_upd rfl (Hp.le_emp _))) ?_
    intro i hi
    have hb := hle'.h i
    have hl := hst_length (D.take i) (v + 1).toNat
    have hcb := hst_rng (D.take i) (v + 1).toNat (D.getD i 0).toNat
    rw [List.length_take] at hcb
    repeat' (first | refine awp_seqK fun K hK => ?_ | (refine awp_regionK 62931135 rfl ?_; simp only [List.map_cons, List.map_nil]; simp (maxSteps := 1000000) (dsimp := false) (implicitDefEqProofs := false) (disch := omega) only [wrap64, go_sem]) | (refine awp_regionQK 62931135 (by kernel_rfl) (by kernel_rfl) (by kernel_rfl) ?_; simp only [List.map_cons, List.map_nil]; simp (maxSteps := 1000000) (dsimp := false) (implicitDefEqProofs := false) (disch := omega) only [wrap64, go_sem]) | refine awp_block ?_ | (refine awp_skip ?_; simp only [go_sem]) | (refine awp_exit ?_; simp only [go_sem]) | (refine awp_ret ?_; try simp only [go_sem]) | (refine awp_condP rfl ?_; try simp only [go_sem]) | (refine BrP.mk (fun h => ?_) (fun h => ?_) <;> try simp (dsimp := false) (disch := omega) only [wrap64]) | (refine Br.mk (fun h => ?_) (fun h => ?_) <;> try simp (dsimp := false) (disch := omega) only [wrap64]) | refine Ob.mk (by first | omega | (intro _ _; rfl) | trivial | (intros; trivial) | assumption | (intro i hi; have h0 : i = 0 := (by omega); subst h0; first | rfl | trivial) | (intro i hi; have h0 : i = 0 ∨ i = 1 := (by omega); rcases h0 with rfl | rfl <;> rfl) | (intro i hi; have h0 : i = 0 ∨ i = 1 ∨ i = 2 := (by omega); rcases h0 with rfl | rfl | rfl <;> rfl)) ?_ | apply_assumption -exfalso -symm)
    all_goals (first | (show endQ _ _ _ _ _ _ _; (repeat (rename (∀ (A : Fr) (H : Hp), AWP _ _ _ _ A H → _) => hK; clear hK)); (repeat (rename (Fr → Hp → Prop) => K; clear K))) | (show Exists _; (repeat (rename (∀ (A : Fr) (H : Hp), AWP _ _ _ _ A H → _) => hK; clear hK)); (repeat (rename (Fr → Hp → Prop) => K; clear K))) | skip)
    · refine ⟨i + 1, by omega, by omega, ?_⟩
      rw [List.take_succ_eq_append_getElem (show i < D.length by omega), show D[i]'(by omega) = D.getD i 0 from by rw [List.getD_eq_getElem?_getD, List.getElem?_eq_getElem (show i < D.length by omega)]; rfl, ← hst_put (hb (by omega)).1 (by have := hb (by omega); omega)]
      exact Sub.toL (by simp only [go_sem] <;> first | trivial | (simp only [Option.some.injEq, AV.v.injEq, AV.own.injEq, AV.list.injEq, Value.int.injEq, Value.bool.injEq, true_and, and_true]; first | omega | (simp; done)) | (simp; done) | (simp; omega)) (Hp.le_refl _)
    · have e : i = D.length := by omega
      subst e
      rw [List.take_length, ← hhis, show (v + 1).toNat = (hisP p).length by rw [hhis, hst_length]]
      exact end_retI' rfl rfl rfl rfl rfl rfl
  · have e : hisP p = [] := by unfold hisP; rw [if_neg (by simp [*])]
    rw [e]
    exact end_retI_nil' rfl rfl rfl rfl
theorem hisP_len (p : Pz) : (hisP p).length ≤ 3001 := by
  obtain ⟨hb1, hb2⟩ := XA_basic p
  unfold hisP
  split
  · rename_i h
    obtain ⟨hz, hw, hx⟩ := XA_whole h
    rw [hst_length]
    unfold hLen
    have := hw.pos
    rw [if_neg (by omega)]
    have := hw.le ((XA p).dp.length - 1) (by omega)
    omega
  · simp
end Go.Proofs.Ytdllbnchcjgcdaa
