import Derived.Test.YtngpacdhpblpbaaC11
import Derived.Test.YtngpacdhpblpbaaC5
import Derived.Test.YtngpacdhpblpbaaC3
/- Orbits, the reference. -/
section
namespace Go.Proofs.Ytngpacdhpblpbaa
open Go.Av
set_option linter.unusedSimpArgs false
set_option linter.unusedVariables false
attribute [local irreducible] AWP CallG Ob Br BrP Go.Av.Sub endQ AOps OpV AC thenA blkA opsVC opVC withA withArgs opsQ opQ CallQ withA2 withArgs2
open Go.Pm (Pm rowO runO JO sortS insS orbF clsF partK Rch)
theorem rowO_succ (gs : List (List Int)) (f : List Int) (y k : Nat) : rowO gs f y (k + 1) = if (gs.getD k []).getD y 0 ∈ rowO gs f y k then rowO gs f y k else rowO gs f y k ++ [(gs.getD k []).getD y 0] := rfl
theorem runO_succ (gs : List (List Int)) (x i : Nat) (h : i < (runO gs x i).length) : runO gs x (i + 1) = rowO gs (runO gs x i) ((runO gs x i).getD i 0).toNat gs.length := if_pos h
theorem specOrbitOf_ok (n : Nat) (gs : List (List Int)) (x : Nat) (hg : ∀ g ∈ gs, Pm n g) (hx : x < n) (hn : n ≤ 100000) (hl : gs.length ≤ 100000) (d : Nat) : AC Try.prog 146 [intss gs, .v (.int .i64 ((x : Nat)))] Hp.emp (fun _ => false) (retI d (runO gs x n)) := by
  have hg := Hold.mk hg
  refine ac_of_awp (N := ⟨_, fun _ => false, fun _ _ => rfl⟩) Try.func146 rfl (by kernel_rfl) Try.ntmps146 (by simp) ?_
  simp only [argsFr, List.zipIdx_cons, List.zipIdx_nil, go_sem]
  repeat' (first | refine awp_seqK fun K hK => ?_ | (refine awp_regionK 68720542195 rfl ?_; simp only [List.map_cons, List.map_nil]; simp (maxSteps := 1000000) (dsimp := false) (implicitDefEqProofs := false) (disch := omega) only [wrap64, go_sem]) | (refine awp_regionQK 68720542195 (by kernel_rfl) (by kernel_rfl) (by kernel_rfl) ?_; simp only [List.map_cons, List.map_nil]; simp (maxSteps := 1000000) (dsimp := false) (implicitDefEqProofs := false) (disch := omega) only [wrap64, go_sem]) | refine awp_block ?_ | (refine awp_skip ?_; simp only [go_sem]) | (refine awp_exit ?_; simp only [go_sem]) | (refine awp_ret ?_; try simp only [go_sem]) | (refine awp_condP rfl ?_; try simp only [go_sem]) | (refine BrP.mk (fun h => ?_) (fun h => ?_) <;> try simp (dsimp := false) (disch := omega) only [wrap64]) | (refine Br.mk (fun h => ?_) (fun h => ?_) <;> try simp (dsimp := false) (disch := omega) only [wrap64]) | refine Ob.mk (by first | omega | (intro _ _; rfl) | trivial | (intros; trivial) | assumption | (intro i hi; have h0 : i = 0 := (by omega); subst h0; first | rfl | trivial) | (intro i hi; have h0 : i = 0 ∨ i = 1 := (by omega); rcases h0 with rfl | rfl <;> rfl) | (intro i hi; have h0 : i = 0 ∨ i = 1 ∨ i = 2 := (by omega); rcases h0 with rfl | rfl | rfl <;> rfl)) ?_ | apply_assumption -exfalso -symm)
  all_goals (first | (show endQ _ _ _ _ _ _ _; (repeat (rename (∀ (A : Fr) (H : Hp), AWP _ _ _ _ A H → _) => hK; clear hK)); (repeat (rename (Fr → Hp → Prop) => K; clear K))) | (show Exists _; (repeat (rename (∀ (A : Fr) (H : Hp), AWP _ _ _ _ A H → _) => hK; clear hK)); (repeat (rename (Fr → Hp → Prop) => K; clear K))) | skip)
  refine awp_loop (ι := Nat) (fun i => [(6, .v (.int .i64 ((i : Nat)))), (5, .own 10 0 1 (runO gs x i).length), (0, .list false 1 (gs).length (cM ints [] (gs)))]) (fun i => Hp.emp.upd 10 (.cells (runO gs x i).length (cM iv 0 (runO gs x i)))) (fun i => Hold (∀ j, j < i → j < (runO gs x j).length)) (fun i => n - i) 0 ?_ (Sub.toL (by simp only [go_sem] <;> first | trivial | (simp only [Option.some.injEq, AV.v.injEq, AV.own.injEq, AV.list.injEq, Value.int.injEq, Value.bool.injEq, true_and, and_true]; first | omega | (simp [runO]; done)) | (simp [runO]; done) | (simp [runO]; omega)) (by (repeat' (first | exact Hp.le_emp _ | exact Hp.le_refl _ | refine Hp.le_upd ?_ ?_)); all_goals (first | rfl | (simp only [go_sem]; first | rfl | (refine cellsE ?_ ?_ <;> (simp [runO])) | (simp [runO]))))) ?_
  · exact ⟨fun j hj => by omega⟩
  intro i hi
  have hJ := Hold.mk (Go.Pm.runO_J hg.h hx i hi.h)
  have hle := hJ.h.len
  have hle2 := hJ.h.le
  repeat' (first | refine awp_seqK fun K hK => ?_ | (refine awp_regionK 68720542195 rfl ?_; simp only [List.map_cons, List.map_nil]; simp (maxSteps := 1000000) (dsimp := false) (implicitDefEqProofs := false) (disch := omega) only [wrap64, go_sem]) | (refine awp_regionQK 68720542195 (by kernel_rfl) (by kernel_rfl) (by kernel_rfl) ?_; simp only [List.map_cons, List.map_nil]; simp (maxSteps := 1000000) (dsimp := false) (implicitDefEqProofs := false) (disch := omega) only [wrap64, go_sem]) | refine awp_block ?_ | (refine awp_skip ?_; simp only [go_sem]) | (refine awp_exit ?_; simp only [go_sem]) | (refine awp_ret ?_; try simp only [go_sem]) | (refine awp_condP rfl ?_; try simp only [go_sem]) | (refine BrP.mk (fun h => ?_) (fun h => ?_) <;> try simp (dsimp := false) (disch := omega) only [wrap64]) | (refine Br.mk (fun h => ?_) (fun h => ?_) <;> try simp (dsimp := false) (disch := omega) only [wrap64]) | refine Ob.mk (by first | omega | (intro _ _; rfl) | trivial | (intros; trivial) | assumption | (intro i hi; have h0 : i = 0 := (by omega); subst h0; first | rfl | trivial) | (intro i hi; have h0 : i = 0 ∨ i = 1 := (by omega); rcases h0 with rfl | rfl <;> rfl) | (intro i hi; have h0 : i = 0 ∨ i = 1 ∨ i = 2 := (by omega); rcases h0 with rfl | rfl | rfl <;> rfl)) ?_ | apply_assumption -exfalso -symm)
  all_goals (first | (show endQ _ _ _ _ _ _ _; (repeat (rename (∀ (A : Fr) (H : Hp), AWP _ _ _ _ A H → _) => hK; clear hK)); (repeat (rename (Fr → Hp → Prop) => K; clear K))) | (show Exists _; (repeat (rename (∀ (A : Fr) (H : Hp), AWP _ _ _ _ A H → _) => hK; clear hK)); (repeat (rename (Fr → Hp → Prop) => K; clear K))) | skip)
  · have hif : i < (runO gs x i).length := by omega
    have hr := runO_succ gs x i hif
    obtain ⟨y, ey, hy, _⟩ := hJ.h.get (by omega : i < (runO gs x i).length)
    obtain ⟨f, ef⟩ : ∃ f, f = runO gs x i := ⟨_, rfl⟩
    rw [← ef] at hJ hle hle2 ey hr hif ⊢
    have eyn : (f.getD i 0).toNat = y := by omega
    rw [eyn] at hr
    refine awp_loop (ι := Nat) (fun k => [(7, .v (.int .i64 ((k : Nat)))), (6, .v (.int .i64 ((i : Nat)))), (5, .own 10 0 1 (rowO gs f y k).length), (0, .list false 1 (gs).length (cM ints [] (gs)))]) (fun k => Hp.emp.upd 10 (.cells (rowO gs f y k).length (cM iv 0 (rowO gs f y k)))) (fun k => k ≤ gs.length) (fun k => gs.length - k) 0 (Nat.zero_le _) (Sub.toL (by simp only [go_sem] <;> first | trivial | (simp only [Option.some.injEq, AV.v.injEq, AV.own.injEq, AV.list.injEq, Value.int.injEq, Value.bool.injEq, true_and, and_true]; first | omega | (simp [rowO]; done)) | (simp [rowO]; done) | (simp [rowO]; omega)) (by (repeat' (first | exact Hp.le_emp _ | exact Hp.le_refl _ | refine Hp.le_upd ?_ ?_)); all_goals (first | rfl | (simp only [go_sem]; first | rfl | (refine cellsE ?_ ?_ <;> (simp [rowO])) | (simp [rowO]))))) ?_
    intro k hk
    have hJk := Hold.mk ((hJ.h.rows hg.h hx (by omega)) k hk)
    rw [eyn] at hJk
    have hlk := hJk.h.len
    have hl0 := Go.Pm.rowO_len (gs := gs) (f := f) (y := y) k
    have hgi : (rowO gs f y k).getD i 0 = (y : Int) := by rw [Go.Pm.rowO_get k (by omega)]; exact ey
    have hpk : k < gs.length → Pm n (gs.getD k []) := fun h => hg.h _ (by rw [List.getD_eq_getElem?_getD, List.getElem?_eq_getElem h]; exact List.getElem_mem h)
    have hlen : k < gs.length → (gs.getD k []).length = n := fun h => (hpk h).1
    have hpk := Hold.mk hpk
    have hsucc := rowO_succ gs f y k
    repeat' (first | refine awp_seqK fun K hK => ?_ | (refine awp_regionK 68720542195 rfl ?_; simp only [List.map_cons, List.map_nil]; simp (maxSteps := 1000000) (dsimp := false) (implicitDefEqProofs := false) (disch := omega) only [wrap64, go_sem, hgi, hlen]) | (refine awp_regionQK 68720542195 (by kernel_rfl) (by kernel_rfl) (by kernel_rfl) ?_; simp only [List.map_cons, List.map_nil]; simp (maxSteps := 1000000) (dsimp := false) (implicitDefEqProofs := false) (disch := omega) only [wrap64, go_sem, hgi, hlen]) | refine awp_block ?_ | (refine awp_skip ?_; simp only [go_sem, hgi, hlen]) | (refine awp_exit ?_; simp only [go_sem, hgi, hlen]) | (refine awp_ret ?_; try simp only [go_sem, hgi, hlen]) | (refine awp_condP rfl ?_; try simp only [go_sem, hgi, hlen]) | (refine BrP.mk (fun h => ?_) (fun h => ?_) <;> try simp (dsimp := false) (disch := omega) only [wrap64]) | (refine Br.mk (fun h => ?_) (fun h => ?_) <;> try simp (dsimp := false) (disch := omega) only [wrap64]) | refine Ob.mk (by first | omega | (intro _ _; rfl) | trivial | (intros; trivial) | assumption | (intro i hi; have h0 : i = 0 := (by omega); subst h0; first | rfl | trivial) | (intro i hi; have h0 : i = 0 ∨ i = 1 := (by omega); rcases h0 with rfl | rfl <;> rfl) | (intro i hi; have h0 : i = 0 ∨ i = 1 ∨ i = 2 := (by omega); rcases h0 with rfl | rfl | rfl <;> rfl)) ?_ | ((first | ((first | refine atF (f := 126) ?_ | refine atQ (f := 126) ?_); (first | (refine cV (hac := containsInt_ok (rowO gs f y k) ((gs.getD k []).getD y 0) (by omega)) (hK := ?_)) | (refine cQV (hac := containsInt_ok (rowO gs f y k) ((gs.getD k []).getD y 0) (by omega)) (hK := ?_))))); simp (maxSteps := 1000000) (dsimp := false) (implicitDefEqProofs := false) (disch := omega) only [wrap64, go_sem, hgi, hlen]) | apply_assumption -exfalso -symm)
    all_goals (first | (show endQ _ _ _ _ _ _ _; (repeat (rename (∀ (A : Fr) (H : Hp), AWP _ _ _ _ A H → _) => hK; clear hK)); (repeat (rename (Fr → Hp → Prop) => K; clear K))) | (show Exists _; (repeat (rename (∀ (A : Fr) (H : Hp), AWP _ _ _ _ A H → _) => hK; clear hK)); (repeat (rename (Fr → Hp → Prop) => K; clear K))) | skip)
    · rw [if_pos ‹_›] at hsucc
      refine ⟨k + 1, by omega, by omega, ?_⟩
      rw [hsucc]
      exact Sub.toL (by simp only [go_sem] <;> first | trivial | (simp only [Option.some.injEq, AV.v.injEq, AV.own.injEq, AV.list.injEq, Value.int.injEq, Value.bool.injEq, true_and, and_true]; first | omega | (simp; done)) | (simp; done) | (simp; omega)) (by (repeat' (first | exact Hp.le_emp _ | exact Hp.le_refl _ | refine Hp.le_upd ?_ ?_)); all_goals (first | rfl | (simp only [go_sem]; first | rfl | (refine cellsE ?_ ?_ <;> (simp)) | (simp))))
    · rw [if_neg ‹_›] at hsucc
      refine ⟨k + 1, by omega, by omega, ?_⟩
      rw [hsucc]
      exact Sub.toL (by simp only [go_sem] <;> first | trivial | (simp only [Option.some.injEq, AV.v.injEq, AV.own.injEq, AV.list.injEq, Value.int.injEq, Value.bool.injEq, true_and, and_true]; first | omega | (simp; done)) | (simp; done) | (simp; omega)) (by (repeat' (first | exact Hp.le_emp _ | exact Hp.le_refl _ | refine Hp.le_upd ?_ ?_)); all_goals (first | rfl | (simp only [go_sem]; first | rfl | (refine cellsE ?_ ?_ <;> (simp)) | (simp))))
    · have e : k = gs.length := by omega
      subst e
      refine ⟨i + 1, ⟨fun j hj => ?_⟩, by omega, ?_⟩
      · by_cases e : j = i
        · subst e; rw [← ef]; exact hif
        · exact hi.h j (by omega)
      · rw [hr]
        exact Sub.toL (by simp only [go_sem] <;> first | trivial | (simp only [Option.some.injEq, AV.v.injEq, AV.own.injEq, AV.list.injEq, Value.int.injEq, Value.bool.injEq, true_and, and_true]; first | omega | (simp; done)) | (simp; done) | (simp; omega)) (by (repeat' (first | exact Hp.le_emp _ | exact Hp.le_refl _ | refine Hp.le_upd ?_ ?_)); all_goals (first | rfl | (simp only [go_sem]; first | rfl | (refine cellsE ?_ ?_ <;> (simp)) | (simp))))
  · rw [(Go.Pm.runO_end hg.h hx hi.h (by omega)).1]
    (first | refine end_retI' rfl rfl rfl ?_ rfl rfl | refine end_retI_nil' rfl rfl ?_ rfl)
    rfl
theorem insS_at : ∀ (l : List Int) (v : Int) (j : Nat), j ≤ l.length → (∀ i, i < j → l.getD i 0 < v) → (j < l.length → ¬ l.getD j 0 < v) → insS v l = if j < l.length ∧ l.getD j 0 = v then l else l.take j ++ v :: l.drop j
  | [], v, j, h0, h1, h2 => by
    have : j = 0 := by simpa using h0
    subst this; simp [insS]
  | u :: l, v, 0, h0, h1, h2 => by
    have h3 : ¬ u < v := by have := h2 (by simp); simpa using this
    unfold insS
    rw [if_neg h3]
    by_cases e : u = v
    · rw [if_pos e, if_pos ⟨by simp, by simpa using e⟩]
    · rw [if_neg e, if_neg (fun h => e (by simpa using h.2))]; rfl
  | u :: l, v, j + 1, h0, h1, h2 => by
    have h3 : u < v := by have := h1 0 (by omega); simpa using this
    have ih := insS_at l v j (by simpa using h0) (fun i hi => by have := h1 (i + 1) (by omega); simpa using this) (fun hj => by have := h2 (by simpa using hj); simpa using this)
    unfold insS
    rw [if_pos h3, ih]
    simp only [List.length_cons, List.getD_cons_succ, List.take_succ_cons, List.drop_succ_cons, Nat.add_lt_add_iff_right]
    split <;> rfl
theorem insertSorted_ok (l : List Int) (v : Int) (hl : l.length ≤ 100000) : AC Try.prog 178 [ints l, .v (.int .i64 (v))] Hp.emp (fun _ => false) (retV (ints (insS v l))) := by
  refine ac_of_awp (N := ⟨_, fun _ => false, fun _ _ => rfl⟩) Try.func178 rfl (by kernel_rfl) Try.ntmps178 (by simp) ?_
  simp only [argsFr, List.zipIdx_cons, List.zipIdx_nil, go_sem]
  repeat' (first | refine awp_seqK fun K hK => ?_ | (refine awp_regionK 4295229555 rfl ?_; simp only [List.map_cons, List.map_nil]; simp (maxSteps := 1000000) (dsimp := false) (implicitDefEqProofs := false) (disch := omega) only [wrap64, go_sem]) | (refine awp_regionQK 4295229555 (by kernel_rfl) (by kernel_rfl) (by kernel_rfl) ?_; simp only [List.map_cons, List.map_nil]; simp (maxSteps := 1000000) (dsimp := false) (implicitDefEqProofs := false) (disch := omega) only [wrap64, go_sem]) | refine awp_block ?_ | (refine awp_skip ?_; simp only [go_sem]) | (refine awp_exit ?_; simp only [go_sem]) | (refine awp_ret ?_; try simp only [go_sem]) | (refine awp_condP rfl ?_; try simp only [go_sem]) | (refine BrP.mk (fun h => ?_) (fun h => ?_) <;> try simp (dsimp := false) (disch := omega) only [wrap64]) | (refine Br.mk (fun h => ?_) (fun h => ?_) <;> try simp (dsimp := false) (disch := omega) only [wrap64]) | refine Ob.mk (by first | omega | (intro _ _; rfl) | trivial | (intros; trivial) | assumption | (intro i hi; have h0 : i = 0 := (by omega); subst h0; first | rfl | trivial) | (intro i hi; have h0 : i = 0 ∨ i = 1 := (by omega); rcases h0 with rfl | rfl <;> rfl) | (intro i hi; have h0 : i = 0 ∨ i = 1 ∨ i = 2 := (by omega); rcases h0 with rfl | rfl | rfl <;> rfl)) ?_ | apply_assumption -exfalso -symm)
  all_goals (first | (show endQ _ _ _ _ _ _ _; (repeat (rename (∀ (A : Fr) (H : Hp), AWP _ _ _ _ A H → _) => hK; clear hK)); (repeat (rename (Fr → Hp → Prop) => K; clear K))) | (show Exists _; (repeat (rename (∀ (A : Fr) (H : Hp), AWP _ _ _ _ A H → _) => hK; clear hK)); (repeat (rename (Fr → Hp → Prop) => K; clear K))) | skip)
  refine awp_loop (ι := Nat) (fun j => [(5, .v (.int .i64 ((j : Nat)))), (0, .list false 1 (l).length (cM iv 0 (l))), (1, .v (.int .i64 (v)))]) (fun j => Hp.emp) (fun j => j ≤ l.length ∧ Hold (∀ i, i < j → l.getD i 0 < v)) (fun j => l.length - j) 0 ?_ (Sub.toL (by simp only [go_sem] <;> first | trivial | (simp only [Option.some.injEq, AV.v.injEq, AV.own.injEq, AV.list.injEq, Value.int.injEq, Value.bool.injEq, true_and, and_true]; first | omega | (simp; done)) | (simp; done) | (simp; omega)) (by (repeat' (first | exact Hp.le_emp _ | exact Hp.le_refl _ | refine Hp.le_upd ?_ ?_)); all_goals (first | rfl | (simp only [go_sem]; first | rfl | (refine cellsE ?_ ?_ <;> (simp)) | (simp))))) ?_
  · exact ⟨Nat.zero_le _, ⟨fun i hi => by omega⟩⟩
  rintro j ⟨hj, hlt⟩
  have htl : (l.take j).length = j := by rw [List.length_take]; omega
  have hdl : (l.drop j).length = l.length - j := List.length_drop
  have ha1 := apF_cM iv 0 (l.take j) [v]
  have ha2 := apF_cM iv 0 (l.take j ++ [v]) (l.drop j)
  rw [List.length_append, htl, List.length_singleton] at ha2
  rw [htl] at ha1
  repeat' (first | (show False; omega) | refine awp_seqK fun K hK => ?_ | (refine awp_regionK 4295229555 rfl ?_; simp only [List.map_cons, List.map_nil]; simp (maxSteps := 1000000) (dsimp := false) (implicitDefEqProofs := false) (disch := omega) only [wrap64, go_sem, htl, hdl, ha1, ha2]) | (refine awp_regionQK 4295229555 (by kernel_rfl) (by kernel_rfl) (by kernel_rfl) ?_; simp only [List.map_cons, List.map_nil]; simp (maxSteps := 1000000) (dsimp := false) (implicitDefEqProofs := false) (disch := omega) only [wrap64, go_sem, htl, hdl, ha1, ha2]) | refine awp_block ?_ | (refine awp_skip ?_; simp only [go_sem, htl, hdl, ha1, ha2]) | (refine awp_exit ?_; simp only [go_sem, htl, hdl, ha1, ha2]) | (refine awp_ret ?_; try simp only [go_sem, htl, hdl, ha1, ha2]) | (refine awp_condP rfl ?_; try simp only [go_sem, htl, hdl, ha1, ha2]) | (refine BrP.mk (fun h => ?_) (fun h => ?_) <;> try simp (dsimp := false) (disch := omega) only [wrap64]) | (refine Br.mk (fun h => ?_) (fun h => ?_) <;> try simp (dsimp := false) (disch := omega) only [wrap64]) | refine Ob.mk (by first | omega | (intro _ _; rfl) | trivial | (intros; trivial) | assumption | (intro i hi; have h0 : i = 0 := (by omega); subst h0; first | rfl | trivial) | (intro i hi; have h0 : i = 0 ∨ i = 1 := (by omega); rcases h0 with rfl | rfl <;> rfl) | (intro i hi; have h0 : i = 0 ∨ i = 1 ∨ i = 2 := (by omega); rcases h0 with rfl | rfl | rfl <;> rfl)) ?_ | ((first | ((first | refine atF (f := 152) ?_ | refine atQ (f := 152) ?_); (first | (refine cI (hac := specCopyInts_ok (l.take j) (by rw [List.length_take]; omega) 37) (hK := ?_)) | (refine cQI (hac := specCopyInts_ok (l.take j) (by rw [List.length_take]; omega) 37) (hK := ?_))))); simp (maxSteps := 1000000) (dsimp := false) (implicitDefEqProofs := false) (disch := omega) only [wrap64, go_sem, htl, hdl, ha1, ha2]) | apply_assumption -exfalso -symm)
  all_goals (first | (show endQ _ _ _ _ _ _ _; (repeat (rename (∀ (A : Fr) (H : Hp), AWP _ _ _ _ A H → _) => hK; clear hK)); (repeat (rename (Fr → Hp → Prop) => K; clear K))) | (show Exists _; (repeat (rename (∀ (A : Fr) (H : Hp), AWP _ _ _ _ A H → _) => hK; clear hK)); (repeat (rename (Fr → Hp → Prop) => K; clear K))) | skip)
  · refine ⟨j + 1, ⟨by omega, ⟨fun i hi => ?_⟩⟩, by omega, Sub.toL (by simp only [go_sem] <;> first | trivial | (simp only [Option.some.injEq, AV.v.injEq, AV.own.injEq, AV.list.injEq, Value.int.injEq, Value.bool.injEq, true_and, and_true]; first | omega | (simp; done)) | (simp; done) | (simp; omega)) (Hp.le_refl _)⟩
    by_cases e : i = j
    · subst e; assumption
    · exact hlt.h i (by omega)
  · rw [insS_at l v j hj hlt.h (fun _ => ‹_›), if_pos ⟨by omega, ‹_›⟩]
    exact end_retV rfl rfl
  all_goals
    have e : insS v l = l.take j ++ [v] ++ l.drop j := by
      rw [insS_at l v j hj hlt.h (fun _ => by first | assumption | omega), if_neg (fun h => by first | exact absurd h.2 ‹_› | omega), List.append_assoc]; rfl
    rw [e]
    exact end_retF rfl rfl (fits_I rfl trivial rfl (by simp only [List.length_append, htl, hdl, List.length_singleton]))
/-- Rows of numbers in order. -/
theorem sortedInts_ok (l : List Int) (hl : l.length ≤ 100000) : AC Try.prog 145 [ints l] Hp.emp (fun _ => false) (retV (ints (sortS l))) := by
  refine ac_of_awp (N := ⟨_, fun _ => false, fun _ _ => rfl⟩) Try.func145 rfl (by kernel_rfl) Try.ntmps145 (by simp) ?_
  simp only [argsFr, List.zipIdx_cons, List.zipIdx_nil, go_sem]
  repeat' (first | refine awp_seqK fun K hK => ?_ | (refine awp_regionK 541 rfl ?_; simp only [List.map_cons, List.map_nil]; simp (maxSteps := 1000000) (dsimp := false) (implicitDefEqProofs := false) (disch := omega) only [wrap64, go_sem]) | (refine awp_regionQK 541 (by kernel_rfl) (by kernel_rfl) (by kernel_rfl) ?_; simp only [List.map_cons, List.map_nil]; simp (maxSteps := 1000000) (dsimp := false) (implicitDefEqProofs := false) (disch := omega) only [wrap64, go_sem]) | refine awp_block ?_ | (refine awp_skip ?_; simp only [go_sem]) | (refine awp_exit ?_; simp only [go_sem]) | (refine awp_ret ?_; try simp only [go_sem]) | (refine awp_condP rfl ?_; try simp only [go_sem]) | (refine BrP.mk (fun h => ?_) (fun h => ?_) <;> try simp (dsimp := false) (disch := omega) only [wrap64]) | (refine Br.mk (fun h => ?_) (fun h => ?_) <;> try simp (dsimp := false) (disch := omega) only [wrap64]) | refine Ob.mk (by first | omega | (intro _ _; rfl) | trivial | (intros; trivial) | assumption | (intro i hi; have h0 : i = 0 := (by omega); subst h0; first | rfl | trivial) | (intro i hi; have h0 : i = 0 ∨ i = 1 := (by omega); rcases h0 with rfl | rfl <;> rfl) | (intro i hi; have h0 : i = 0 ∨ i = 1 ∨ i = 2 := (by omega); rcases h0 with rfl | rfl | rfl <;> rfl)) ?_ | apply_assumption -exfalso -symm)
  all_goals (first | (show endQ _ _ _ _ _ _ _; (repeat (rename (∀ (A : Fr) (H : Hp), AWP _ _ _ _ A H → _) => hK; clear hK)); (repeat (rename (Fr → Hp → Prop) => K; clear K))) | (show Exists _; (repeat (rename (∀ (A : Fr) (H : Hp), AWP _ _ _ _ A H → _) => hK; clear hK)); (repeat (rename (Fr → Hp → Prop) => K; clear K))) | skip)
  refine awp_loop (ι := Nat) (fun k => [(4, .v (.int .i64 ((k : Nat)))), (3, ints (sortS (l.take k))), (0, .list false 1 (l).length (cM iv 0 (l)))]) (fun _ => Hp.emp) (fun k => k ≤ l.length) (fun k => l.length - k) 0 (Nat.zero_le _) (Sub.toFF (fun _ => True) (Fr.fit_cons rfl (.refl _) (Fr.fit_cons rfl (fits_I rfl trivial rfl rfl) (Fr.fit_cons rfl (.refl _) (Fr.fit_nil _)))) leF_emp) ?_
  intro k hk
  have hsl := Go.Pm.sortS_len (l.take k)
  rw [List.length_take] at hsl
  have hsc := fun h => Go.Pm.sortS_take l k h
  have hsc := Hold.mk hsc
  repeat' (first | refine awp_seqK fun K hK => ?_ | (refine awp_regionK 541 rfl ?_; simp only [List.map_cons, List.map_nil]; simp (maxSteps := 1000000) (dsimp := false) (implicitDefEqProofs := false) (disch := omega) only [wrap64, go_sem]) | (refine awp_regionQK 541 (by kernel_rfl) (by kernel_rfl) (by kernel_rfl) ?_; simp only [List.map_cons, List.map_nil]; simp (maxSteps := 1000000) (dsimp := false) (implicitDefEqProofs := false) (disch := omega) only [wrap64, go_sem]) | refine awp_block ?_ | (refine awp_skip ?_; simp only [go_sem]) | (refine awp_exit ?_; simp only [go_sem]) | (refine awp_ret ?_; try simp only [go_sem]) | (refine awp_condP rfl ?_; try simp only [go_sem]) | (refine BrP.mk (fun h => ?_) (fun h => ?_) <;> try simp (dsimp := false) (disch := omega) only [wrap64]) | (refine Br.mk (fun h => ?_) (fun h => ?_) <;> try simp (dsimp := false) (disch := omega) only [wrap64]) | refine Ob.mk (by first | omega | (intro _ _; rfl) | trivial | (intros; trivial) | assumption | (intro i hi; have h0 : i = 0 := (by omega); subst h0; first | rfl | trivial) | (intro i hi; have h0 : i = 0 ∨ i = 1 := (by omega); rcases h0 with rfl | rfl <;> rfl) | (intro i hi; have h0 : i = 0 ∨ i = 1 ∨ i = 2 := (by omega); rcases h0 with rfl | rfl | rfl <;> rfl)) ?_ | ((first | ((first | refine atF (f := 178) ?_ | refine atQ (f := 178) ?_); (first | (refine cR (hac := insertSorted_ok (sortS (l.take k)) (l.getD k 0) (by omega)) (hK := ?_)) | (refine cQR (hac := insertSorted_ok (sortS (l.take k)) (l.getD k 0) (by omega)) (hK := ?_))))); simp (maxSteps := 1000000) (dsimp := false) (implicitDefEqProofs := false) (disch := omega) only [wrap64, go_sem]) | apply_assumption -exfalso -symm)
  all_goals (first | (show endQ _ _ _ _ _ _ _; (repeat (rename (∀ (A : Fr) (H : Hp), AWP _ _ _ _ A H → _) => hK; clear hK)); (repeat (rename (Fr → Hp → Prop) => K; clear K))) | (show Exists _; (repeat (rename (∀ (A : Fr) (H : Hp), AWP _ _ _ _ A H → _) => hK; clear hK)); (repeat (rename (Fr → Hp → Prop) => K; clear K))) | skip)
  · refine ⟨k + 1, by omega, by omega, ?_⟩
    rw [hsc.h (by omega)]
    exact Sub.toL (by simp only [go_sem] <;> first | trivial | (simp only [Option.some.injEq, AV.v.injEq, AV.own.injEq, AV.list.injEq, Value.int.injEq, Value.bool.injEq, true_and, and_true]; first | omega | (simp; done)) | (simp; done) | (simp; omega)) (Hp.le_refl _)
  · have e : k = l.length := by omega
    subst e
    rw [List.take_length]
    exact end_retV rfl rfl
end Go.Proofs.Ytngpacdhpblpbaa
end
/- All orbits, the reference. -/
section
namespace Go.Proofs.Ytngpacdhpblpbaa
open Go.Av
set_option linter.unusedSimpArgs false
set_option linter.unusedVariables false
attribute [local irreducible] AWP CallG Ob Br BrP Go.Av.Sub endQ AOps OpV AC thenA blkA opsVC opVC withA withArgs opsQ opQ CallQ withA2 withArgs2
open Go.Pm (Pm rowO runO JO sortS insS orbF clsF partK Rch loR)
theorem mem_seen (n : Nat) (gs : List (List Int)) (hg : ∀ g ∈ gs, Pm n g) (x : Nat) (hx : x < n) : (x : Int) ∈ (partK n (Rch gs) x).flatten ↔ ¬ loR (Rch gs) x = true := by
  rw [Go.Pm.loR_iff, List.mem_flatten]
  constructor
  · rintro ⟨b, hb, hm⟩ hlo
    obtain ⟨y, hy, _, rfl⟩ := Go.Pm.mem_partK.1 hb
    obtain ⟨z, ez, _, hr⟩ := Go.Pm.mem_clsF.1 hm
    have : z = x := by omega
    subst this
    exact hlo y hy hr
  · intro h
    obtain ⟨y, hy⟩ : ∃ y, y < x ∧ Rch gs y x := Classical.byContradiction fun hc => h fun y hy hr => hc ⟨y, hy, hr⟩
    have key : ∀ m y, y ≤ m → y < x → Rch gs y x → ∃ z, z < x ∧ Rch gs z x ∧ loR (Rch gs) z = true := by
      intro m
      induction m with
      | zero => exact fun y h1 h2 h3 => ⟨y, h2, h3, (Go.Pm.loR_iff _ _).2 fun z hz => by omega⟩
      | succ m ih =>
        intro y h1 h2 h3
        by_cases hlo : loR (Rch gs) y = true
        · exact ⟨y, h2, h3, hlo⟩
        · obtain ⟨z, hz, hr⟩ : ∃ z, z < y ∧ Rch gs z y := Classical.byContradiction fun hc => hlo ((Go.Pm.loR_iff _ _).2 fun z hz hr => hc ⟨z, hz, hr⟩)
          exact ih z (by omega) (by omega) (hr.trans h3)
    obtain ⟨z, h1, h2, h3⟩ := key y y (Nat.le_refl _) hy.1 hy.2
    exact ⟨clsF n (Rch gs) z, Go.Pm.mem_partK.2 ⟨z, h1, h3, rfl⟩, Go.Pm.mem_clsF.2 ⟨x, rfl, hx, h2⟩⟩
theorem flat_len (n : Nat) (R : Nat → Nat → Prop) (k : Nat) : (partK n R k).flatten.length ≤ k * n := by
  induction k with
  | zero => simp [partK]
  | succ k ih =>
    rw [Go.Pm.partK_succ, Nat.succ_mul]
    split
    · rw [List.flatten_append, List.length_append]
      have := Go.Pm.clsF_len (n := n) (R := R) (x := k)
      simp only [List.flatten_cons, List.flatten_nil, List.append_nil]; omega
    · omega
theorem specAllOrbits_ok (n : Nat) (gs : List (List Int)) (hg : ∀ g ∈ gs, Pm n g) (hn : n ≤ 1000) (hl : gs.length ≤ 100000) : AC Try.prog 86 [.v (.int .i64 ((n : Nat))), intss gs] Hp.emp (fun _ => false) (retV (intss (partK n (Rch gs) n))) := by
  have hg := Hold.mk hg
  refine ac_of_awp (N := ⟨_, fun _ => false, fun _ _ => rfl⟩) Try.func86 rfl (by kernel_rfl) Try.ntmps86 (by simp) ?_
  simp only [argsFr, List.zipIdx_cons, List.zipIdx_nil, go_sem]
  repeat' (first | refine awp_seqK fun K hK => ?_ | (refine awp_regionK 532979 rfl ?_; simp only [List.map_cons, List.map_nil]; simp (maxSteps := 1000000) (dsimp := false) (implicitDefEqProofs := false) (disch := omega) only [wrap64, go_sem]) | (refine awp_regionQK 532979 (by kernel_rfl) (by kernel_rfl) (by kernel_rfl) ?_; simp only [List.map_cons, List.map_nil]; simp (maxSteps := 1000000) (dsimp := false) (implicitDefEqProofs := false) (disch := omega) only [wrap64, go_sem]) | refine awp_block ?_ | (refine awp_skip ?_; simp only [go_sem]) | (refine awp_exit ?_; simp only [go_sem]) | (refine awp_ret ?_; try simp only [go_sem]) | (refine awp_condP rfl ?_; try simp only [go_sem]) | (refine BrP.mk (fun h => ?_) (fun h => ?_) <;> try simp (dsimp := false) (disch := omega) only [wrap64]) | (refine Br.mk (fun h => ?_) (fun h => ?_) <;> try simp (dsimp := false) (disch := omega) only [wrap64]) | refine Ob.mk (by first | omega | (intro _ _; rfl) | trivial | (intros; trivial) | assumption | (intro i hi; have h0 : i = 0 := (by omega); subst h0; first | rfl | trivial) | (intro i hi; have h0 : i = 0 ∨ i = 1 := (by omega); rcases h0 with rfl | rfl <;> rfl) | (intro i hi; have h0 : i = 0 ∨ i = 1 ∨ i = 2 := (by omega); rcases h0 with rfl | rfl | rfl <;> rfl)) ?_ | apply_assumption -exfalso -symm)
  all_goals (first | (show endQ _ _ _ _ _ _ _; (repeat (rename (∀ (A : Fr) (H : Hp), AWP _ _ _ _ A H → _) => hK; clear hK)); (repeat (rename (Fr → Hp → Prop) => K; clear K))) | (show Exists _; (repeat (rename (∀ (A : Fr) (H : Hp), AWP _ _ _ _ A H → _) => hK; clear hK)); (repeat (rename (Fr → Hp → Prop) => K; clear K))) | skip)
  refine awp_loop (ι := Nat) (fun x => [(7, .v (.int .i64 ((x : Nat)))), (6, .own 10 0 1 (partK n (Rch gs) x).flatten.length), (5, .own 9 0 1 (partK n (Rch gs) x).length), (0, .v (.int .i64 ((n : Nat)))), (1, .list false 1 (gs).length (cM ints [] (gs)))]) (fun x => (Hp.emp.upd 9 (.cells (partK n (Rch gs) x).length (cM ints [] (partK n (Rch gs) x)))).upd 10 (.cells (partK n (Rch gs) x).flatten.length (cM iv 0 (partK n (Rch gs) x).flatten))) (fun x => x ≤ n) (fun x => n - x) 0 (Nat.zero_le _) ?_ ?_
  · exact Sub.toFF (fun _ => False) (Fr.fit_cons rfl (.refl _) (Fr.fit_cons rfl (.refl _) (Fr.fit_cons rfl (.refl _) (Fr.fit_cons rfl (.refl _) (Fr.fit_cons rfl (.refl _) (Fr.fit_nil _)))))) (leF_upd rfl (bfE rfl (fun i hi => absurd hi (Nat.not_lt_zero _))) (leF_upd rfl (bfE rfl (fun i hi => absurd hi (Nat.not_lt_zero _))) leF_emp id) id)
  intro x hx
  have hfl : (partK n (Rch gs) x).flatten.length ≤ 1000000 := Nat.le_trans (flat_len n (Rch gs) x) (Nat.mul_le_mul (show x ≤ 1000 by omega) hn)
  have hpl := Go.Pm.partK_len n (Rch gs) x
  have hcl : (orbF n gs x).length ≤ n := Go.Pm.clsF_len
  have hmem := Hold.mk (fun h => mem_seen n gs hg.h x h)
  have hrl := Hold.mk (fun h => Go.Pm.runO_le (gs := gs) hg.h (x := x) (n := n) h)
  have hsr : x < n → sortS (runO gs x n) = orbF n gs x := fun h => Go.Pm.sortS_run hg.h h
  have hoo := Hold.mk (fun (h : x < n) => specOrbitOf_ok n gs x hg.h h (by omega) hl 22)
  repeat' (first | refine awp_seqK fun K hK => ?_ | (refine awp_regionK 532979 rfl ?_; simp only [List.map_cons, List.map_nil]; simp (maxSteps := 1000000) (dsimp := false) (implicitDefEqProofs := false) (disch := omega) only [wrap64, go_sem, hsr]) | (refine awp_regionQK 532979 (by kernel_rfl) (by kernel_rfl) (by kernel_rfl) ?_; simp only [List.map_cons, List.map_nil]; simp (maxSteps := 1000000) (dsimp := false) (implicitDefEqProofs := false) (disch := omega) only [wrap64, go_sem, hsr]) | refine awp_block ?_ | (refine awp_skip ?_; simp only [go_sem, hsr]) | (refine awp_exit ?_; simp only [go_sem, hsr]) | (refine awp_ret ?_; try simp only [go_sem, hsr]) | (refine awp_condP rfl ?_; try simp only [go_sem, hsr]) | (refine BrP.mk (fun h => ?_) (fun h => ?_) <;> try simp (dsimp := false) (disch := omega) only [wrap64]) | (refine Br.mk (fun h => ?_) (fun h => ?_) <;> try simp (dsimp := false) (disch := omega) only [wrap64]) | refine Ob.mk (by first | omega | (intro _ _; rfl) | trivial | (intros; trivial) | assumption | (intro i hi; have h0 : i = 0 := (by omega); subst h0; first | rfl | trivial) | (intro i hi; have h0 : i = 0 ∨ i = 1 := (by omega); rcases h0 with rfl | rfl <;> rfl) | (intro i hi; have h0 : i = 0 ∨ i = 1 ∨ i = 2 := (by omega); rcases h0 with rfl | rfl | rfl <;> rfl)) ?_ | ((first | ((first | refine atF (f := 126) ?_ | refine atQ (f := 126) ?_); (first | (refine cV (hac := containsInt_ok (partK n (Rch gs) x).flatten (x : Int) (by omega)) (hK := ?_)) | (refine cQV (hac := containsInt_ok (partK n (Rch gs) x).flatten (x : Int) (by omega)) (hK := ?_)))) | (refine cFI (hac := hoo.h (by omega)) (hK := ?_)) | (refine cQI (hac := hoo.h (by omega)) (hK := ?_)) | ((first | refine atF (f := 145) ?_ | refine atQ (f := 145) ?_); (first | (refine cR (hac := sortedInts_ok (runO gs x n) (by have := hrl.h (by omega); omega)) (hK := ?_)) | (refine cQR (hac := sortedInts_ok (runO gs x n) (by have := hrl.h (by omega); omega)) (hK := ?_))))); simp (maxSteps := 1000000) (dsimp := false) (implicitDefEqProofs := false) (disch := omega) only [wrap64, go_sem, hsr]) | apply_assumption -exfalso -symm)
  all_goals (first | (show endQ _ _ _ _ _ _ _; (repeat (rename (∀ (A : Fr) (H : Hp), AWP _ _ _ _ A H → _) => hK; clear hK)); (repeat (rename (Fr → Hp → Prop) => K; clear K))) | (show Exists _; (repeat (rename (∀ (A : Fr) (H : Hp), AWP _ _ _ _ A H → _) => hK; clear hK)); (repeat (rename (Fr → Hp → Prop) => K; clear K))) | skip)
  · have e1 : partK n (Rch gs) (x + 1) = partK n (Rch gs) x := by rw [Go.Pm.partK_succ, if_neg ((hmem.h (by omega)).1 ‹_›)]
    refine ⟨x + 1, by omega, by omega, ?_⟩
    rw [e1]
    exact Sub.toL (by simp only [go_sem] <;> first | trivial | (simp only [Option.some.injEq, AV.v.injEq, AV.own.injEq, AV.list.injEq, Value.int.injEq, Value.bool.injEq, true_and, and_true]; first | omega | (simp; done)) | (simp; done) | (simp; omega)) (Hp.le_refl _)
  · have hlo : loR (Rch gs) x = true := Classical.byContradiction fun h => absurd ((hmem.h (by omega)).2 h) ‹_›
    have e1 : partK n (Rch gs) (x + 1) = partK n (Rch gs) x ++ [orbF n gs x] := by rw [Go.Pm.partK_succ, if_pos hlo]
    have e2 : (partK n (Rch gs) (x + 1)).flatten = (partK n (Rch gs) x).flatten ++ orbF n gs x := by rw [e1, List.flatten_append]; simp
    have l1 : (partK n (Rch gs) (x + 1)).length = (partK n (Rch gs) x).length + 1 := by rw [e1, List.length_append, List.length_singleton]
    have l2 : (partK n (Rch gs) (x + 1)).flatten.length = (partK n (Rch gs) x).flatten.length + (orbF n gs x).length := by rw [e2, List.length_append]
    refine ⟨x + 1, by omega, by omega, ?_⟩
    rw [l1, l2, e2, e1]
    exact Sub.toFF (fun _ => False) (Fr.fit_cons rfl (.refl _) (Fr.fit_cons rfl (.refl _) (Fr.fit_cons rfl (.refl _) (Fr.fit_cons rfl (.refl _) (Fr.fit_cons rfl (.refl _) (Fr.fit_nil _)))))) (leF_upd rfl (bfE rfl (fun i hi => rfl)) (leF_upd rfl (bfE rfl (ap_ints (partK n (Rch gs) x) (orbF n gs x))) leF_emp id) id)
  · have e : x = n := by omega
    subst e
    exact end_retF rfl rfl (fits_II rfl trivial rfl rfl)
end Go.Proofs.Ytngpacdhpblpbaa
end
/- Orbits, an orbit, fixed points: the reference. -/
section
namespace Go.Proofs.Ytngpacdhpblpbaa
open Go.Av
set_option linter.unusedSimpArgs false
set_option linter.unusedVariables false
attribute [local irreducible] AWP CallG Ob Br BrP Go.Av.Sub endQ AOps OpV AC thenA blkA opsVC opVC withA withArgs opsQ opQ CallQ withA2 withArgs2
open Go.Pm (Pm rowO runO JO sortS insS orbF clsF partK Rch loR)
theorem gens_pm {n : Int} {gs : List (List Int)} (h : isGens n gs) : (∀ g ∈ gs, Pm n.toNat g) ∧ 1 ≤ n ∧ n ≤ 20 := by
  refine ⟨fun g hm => ?_, by have := h.1; omega⟩
  obtain ⟨j, hj, rfl⟩ := List.getElem_of_mem hm
  have := (gensP.of h).2.2 j hj
  rwa [List.getD_eq_getElem?_getD, List.getElem?_eq_getElem hj] at this
/-- What Orbits answers. -/
noncomputable def orbP (n : Int) (gs : List (List Int)) : List (List Int) := if isGens n gs then partK n.toNat (Rch gs) n.toNat else []
end Go.Proofs.Ytngpacdhpblpbaa
end
/- Words to the points of an orbit: what the search keeps; plain. -/
section
namespace Go.Proofs.Ytngpacdhpblpbaa
open Go.Av
set_option linter.unusedSimpArgs false
set_option linter.unusedVariables false
attribute [local irreducible] AWP CallG Ob Br BrP Go.Av.Sub endQ AOps OpV AC thenA blkA opsVC opVC withA withArgs opsQ opQ CallQ withA2 withArgs2
open Go.Pm (Pm Rch img comp invp)
theorem letsW_mem : ∀ (m : Nat) (j : Nat), j < m → ((j : Int) + 1) ∈ lets m
  | 0, j, h => absurd h (Nat.not_lt_zero _)
  | m + 1, j, h => by
    unfold lets
    by_cases e : j = m
    · subst e; simp
    · exact List.mem_append_left _ (letsW_mem m j (by omega))
/-- How many points have no word. -/
def nnW (ws : List (Option (List Int))) : Nat := ws.countP Option.isNone
theorem nnW_set {ws : List (Option (List Int))} {t : Nat} {w : List Int} (ht : t < ws.length) (h : ws.getD t none = none) : nnW (ws.set t (some w)) + 1 = nnW ws := by
  have e : ws[t] = none := by rw [List.getD_eq_getElem?_getD, List.getElem?_eq_getElem ht] at h; exact h
  have hp : 0 < ws.countP Option.isNone := List.countP_pos_iff.2 ⟨ws[t], List.getElem_mem ht, by rw [e]; rfl⟩
  unfold nnW
  rw [List.countP_set ht, e]
  simp only [Option.isNone_none, Option.isNone_some, if_true, if_false, Bool.false_eq_true]
  omega
theorem getD_set {α : Type} {ws : List α} {d : α} {t y : Nat} {a : α} (ht : t < ws.length) : (ws.set t a).getD y d = if y = t then a else ws.getD y d := by
  rw [List.getD_eq_getElem?_getD, List.getElem?_set, List.getD_eq_getElem?_getD]
  by_cases h : t = y
  · rw [if_pos h, if_pos h.symm, if_pos (h ▸ ht)]; rfl
  · rw [if_neg h, if_neg (Ne.symm h)]
structure WI (n : Nat) (gs : List (List Int)) (x : Nat) (ws : List (Option (List Int))) : Prop where
  len : ws.length = n
  x0 : ws.getD x none ≠ none
  wd : ∀ y w, ws.getD y none = some w → y < n ∧ Rch gs x y ∧ (∀ l ∈ w, inL gs l) ∧ img (evalP n gs w) x = y ∧ w.length + nnW ws ≤ n
structure WQ (n : Nat) (gs : List (List Int)) (x : Nat) (ws : List (Option (List Int))) (q : List Int) : Prop extends WI n gs x ws where
  qi : ∀ v ∈ q, ∃ y : Nat, v = (y : Int) ∧ ws.getD y none ≠ none
  ql : q.length + nnW ws ≤ n
  cl : ∀ y, ws.getD y none ≠ none → (y : Int) ∈ q ∨ ∀ j, j < (lets gs.length).length → ws.getD (img (letP gs ((lets gs.length).getD j 0)) y) none ≠ none
section
variable {n x : Nat} {gs : List (List Int)} {ws : List (Option (List Int))} {q : List Int}
theorem WI.get (h : WI n gs x ws) {y : Nat} (hy : ws.getD y none ≠ none) : ∃ w, ws.getD y none = some w := by
  cases e : ws.getD y none with
  | none => exact absurd e hy
  | some w => exact ⟨w, rfl⟩
theorem rch_let (hg : gensP n gs) {y : Nat} {l : Int} (hl : inL gs l) (hy : y < n) (h : Rch gs x y) : Rch gs x (img (letP gs l) y) := by
  have hm : ∀ i, i < gs.length → gs.getD i [] ∈ gs := fun i hi => by rw [List.getD_eq_getElem?_getD, List.getElem?_eq_getElem hi]; exact List.getElem_mem hi
  have hga : ∀ g ∈ gs, Pm n g := fun g hm => by
    obtain ⟨j, hj, rfl⟩ := List.getElem_of_mem hm
    have := hg.2.2 j hj
    rwa [List.getD_eq_getElem?_getD, List.getElem?_eq_getElem hj] at this
  obtain ⟨h1, h2, h3⟩ := hl
  unfold letP
  split
  · exact .step h (hm _ (by omega))
  · exact Rch.inv hga hy (hm _ (by omega)) h
theorem WQ.step (hg : gensP n gs) (hx : x < n) (h : WQ n gs x ws q) {y : Nat} {w : List Int} {l : Int} (hw : ws.getD y none = some w) (hl : inL gs l) (hn : ws.getD (img (letP gs l) y) none = none) :
    WQ n gs x (ws.set (img (letP gs l) y) (some (w ++ [l]))) (q ++ [((img (letP gs l) y : Nat) : Int)]) := by
  obtain ⟨h1, h2, h3, h4, h5⟩ := h.wd y w hw
  have hp := letP_pm hg hl
  have ht : img (letP gs l) y < ws.length := by rw [h.len]; exact hp.img_lt h1
  have hs := nnW_set (w := w ++ [l]) ht hn
  have key : ∀ z, ws.getD z none ≠ none → (ws.set (img (letP gs l) y) (some (w ++ [l]))).getD z none ≠ none := fun z hz => by
    rw [getD_set ht]; split
    · simp
    · exact hz
  refine ⟨⟨by rw [List.length_set]; exact h.len, key x h.x0, fun z w' hz => ?_⟩, fun v hv => ?_, by have := h.ql; rw [List.length_append, List.length_singleton]; omega, fun z hz => ?_⟩
  · rw [getD_set ht] at hz
    split at hz
    · rename_i e
      simp only [Option.some.injEq] at hz
      subst hz e
      refine ⟨hp.img_lt h1, rch_let hg hl h1 h2, fun m hm => ?_, ?_, by rw [List.length_append, List.length_singleton]; omega⟩
      · rcases List.mem_append.1 hm with a | a
        · exact h3 m a
        · rw [List.mem_singleton] at a; subst a; exact hl
      · rw [evalP_app hg h3 (fun m hm => by rw [List.mem_singleton] at hm; subst hm; exact hl), evalP_one hg hl, Go.Pm.img_comp _ _ (by rw [(evalM_pm hg h3).1]; exact hx), h4]
    · obtain ⟨k1, k2, k3, k4, k5⟩ := h.wd z w' hz
      exact ⟨k1, k2, k3, k4, by omega⟩
  · rcases List.mem_append.1 hv with a | a
    · obtain ⟨z, e, hz⟩ := h.qi v a
      exact ⟨z, e, key z hz⟩
    · rw [List.mem_singleton] at a
      refine ⟨_, a, ?_⟩
      rw [getD_set ht, if_pos rfl]; simp
  · by_cases e : z = img (letP gs l) y
    · subst e; exact .inl (List.mem_append_right _ (by simp))
    · rw [getD_set ht, if_neg e] at hz
      rcases h.cl z hz with a | a
      · exact .inl (List.mem_append_left _ a)
      · exact .inr fun j hj => key _ (a j hj)
theorem WQ.pop (h : WQ n gs x ws q) {y : Nat} {r : List Int} (hq : q = (y : Int) :: r) (hd : ∀ j, j < (lets gs.length).length → ws.getD (img (letP gs ((lets gs.length).getD j 0)) y) none ≠ none) : WQ n gs x ws r := by
  subst hq
  refine ⟨h.toWI, fun v hv => h.qi v (List.mem_cons_of_mem _ hv), by have := h.ql; rw [List.length_cons] at this; omega, fun z hz => ?_⟩
  rcases h.cl z hz with a | a
  · rcases List.mem_cons.1 a with e | a
    · have : z = y := by omega
      subst this; exact .inr hd
    · exact .inl a
  · exact .inr a
/-- What the words are in the end. -/
structure WP (n : Nat) (gs : List (List Int)) (x : Nat) (ws : List (Option (List Int))) : Prop where
  len : ws.length = n
  iff : ∀ y, y < n → (ws.getD y none ≠ none ↔ Rch gs x y)
  wd : ∀ y w, ws.getD y none = some w → y < n ∧ (∀ l ∈ w, inL gs l) ∧ img (evalP n gs w) x = y ∧ w.length ≤ n
theorem WQ.last (h : WQ n gs x ws []) : WP n gs x ws := by
  refine ⟨h.len, fun y hy => ⟨fun hr => ?_, fun hr => ?_⟩, fun y w hw => ?_⟩
  · obtain ⟨w, e⟩ := h.get hr
    exact (h.wd y w e).2.1
  · clear hy
    induction hr with
    | refl => exact h.x0
    | @step y g hr hm ih =>
      obtain ⟨i, hi, rfl⟩ := List.getElem_of_mem hm
      obtain ⟨j, hj, e⟩ := List.getElem_of_mem (letsW_mem gs.length i hi)
      rcases h.cl y ih with a | a
      · cases a
      · have := a j hj
        have e2 : (lets gs.length).getD j 0 = (i : Int) + 1 := by rw [List.getD_eq_getElem?_getD, List.getElem?_eq_getElem hj]; exact e
        rw [e2] at this
        unfold letP at this
        rw [if_pos (by omega), show ((i : Int) + 1 - 1).toNat = i by omega, show gs.getD i [] = gs[i] by simp [hi]] at this
        exact this
  · obtain ⟨h1, h2, h3, h4, h5⟩ := h.wd y w hw
    exact ⟨h1, h3, h4, by omega⟩
theorem WQ.start (hx : x < n) : WQ n gs x ((List.replicate n none).set x (some [])) [(x : Int)] := by
  have hl : x < (List.replicate n (none : Option (List Int))).length := by rw [List.length_replicate]; exact hx
  have h0 : ∀ y, (List.replicate n (none : Option (List Int))).getD y none = none := fun y => by
    rw [List.getD_eq_getElem?_getD, List.getElem?_replicate]; split <;> rfl
  have hs := nnW_set (w := []) hl (h0 x)
  have hc : nnW (List.replicate n (none : Option (List Int))) = n := by unfold nnW; rw [List.countP_replicate]; simp
  refine ⟨⟨by rw [List.length_set, List.length_replicate], by rw [getD_set hl, if_pos rfl]; simp, fun y w hw => ?_⟩, fun v hv => ?_, by rw [List.length_singleton]; omega, fun y hy => ?_⟩
  · rw [getD_set hl] at hw
    split at hw
    · rename_i e; subst e
      simp only [Option.some.injEq] at hw; subst hw
      refine ⟨hx, .refl, (fun l hl => by cases hl), ?_, by rw [List.length_nil]; omega⟩
      exact Go.Pm.img_idn hx
    · rw [h0] at hw; cases hw
  · rw [List.mem_singleton] at hv
    exact ⟨x, hv, by rw [getD_set hl, if_pos rfl]; simp⟩
  · rw [getD_set hl] at hy
    split at hy
    · rename_i e; subst e; exact .inl (by simp)
    · exact absurd (h0 y) hy
end
end Go.Proofs.Ytngpacdhpblpbaa
end
