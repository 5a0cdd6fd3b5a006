import Derived.Test.YticbabpajligbaaDoorF4
import Derived.Test.YticbabpajligbaaDoorF3
/- Nodes of syntax trees: how they lie, and what both texts say of one. -/
section
namespace Go.Proofs.YticbabpajligbaaDoor
open Go.Av
set_option linter.unusedSimpArgs false
set_option linter.unusedVariables false
attribute [local irreducible] AWP CallG Ob Br BrP Go.Av.Sub endQ AOps OpV AC thenA blkA opsVC opVC withA withArgs opsQ opQ CallQ withA2 withArgs2
open Go.Nt (Nd nd0 kd ndOk sz szK)
def ndC (x : Nd) : List AV := [.v (.int .i64 (x.kind)), .v (.int .i64 (x.move)), .v (.int .i64 (x.count)), .v (.int .i64 (x.inv)), .v (.int .i64 (x.split)), .list false 1 (x.kids).length (cM iv 0 (x.kids))]
def ndF (xs : List Nd) (j : Nat) : AV := vecF (ndC (xs.getD (j / 6) nd0)) (j % 6)
abbrev nds (xs : List Nd) : AV := .list false 6 xs.length (ndF xs)
theorem ndF_at (xs : List Nd) (k i : Nat) (h : i < 6) : ndF xs (k * 6 + i) = vecF (ndC (xs.getD k nd0)) i := by
  unfold ndF
  rw [show (k * 6 + i) / 6 = k by omega, show (k * 6 + i) % 6 = i by omega]
/-- Six cells that hold a node. -/
structure NdF (f : Nat → AV) (x : Nd) : Prop where
  h0 : f 0 = .v (.int .i64 (x.kind))
  h1 : f 1 = .v (.int .i64 (x.move))
  h2 : f 2 = .v (.int .i64 (x.count))
  h3 : f 3 = .v (.int .i64 (x.inv))
  h4 : f 4 = .v (.int .i64 (x.split))
  h5 : f 5 = .list false 1 (x.kids).length (cM iv 0 (x.kids))
theorem NdF.of {f : Nat → AV} {x : Nd} (h : ∀ i, i < 6 → f i = vecF (ndC x) i) : NdF f x := ⟨h 0 (by decide), h 1 (by decide), h 2 (by decide), h 3 (by decide), h 4 (by decide), h 5 (by decide)⟩
theorem ndF_is (xs : List Nd) (k : Nat) : NdF (fun j => ndF xs (k * 6 + j)) (xs.getD k nd0) := .of fun i hi => ndF_at xs k i hi
theorem shF_app (k : Nat) (f : Nat → AV) (i : Nat) : shF k f i = f (k + i) := rfl
theorem scF_app (p : Nat → Bool) (f : Nat → AV) (i : Nat) : scF p f i = (f i).scrub p := rfl
theorem specNode_ok (many : Int) (f : Nat → AV) (x : Nd) (last : Bool) (hf : NdF f x) (hm : 1 ≤ many ∧ many ≤ 8) (hk : x.kids.length ≤ 1048576) : AC Tryd.prog 57 [.v (.int .i64 (many)), .agg 6 f, .v (.bool (last))] Hp.emp (fun _ => false) (retV (.v (.bool (decide (ndOk many x last))))) := by
  have h0 := hf.h0
  have h1 := hf.h1
  have h2 := hf.h2
  have h3 := hf.h3
  have h4 := hf.h4
  have h5 := hf.h5
  clear hf
  refine ac_of_awp (N := ⟨_, fun _ => false, fun _ _ => rfl⟩) Tryd.func57 rfl (by kernel_rfl) Tryd.ntmps57 (by simp) ?_
  simp only [argsFr, List.zipIdx_cons, List.zipIdx_nil, go_sem]
  repeat' (first | refine awp_seqK fun K hK => ?_ | (refine awp_regionK 18889465940274686591191 rfl ?_; simp only [List.map_cons, List.map_nil]; simp (maxSteps := 1000000) (dsimp := false) (implicitDefEqProofs := false) (disch := omega) only [wrap64, go_sem, scF_app, h0, h1, h2, h3, h4, h5]) | (refine awp_regionQK 18889465940274686591191 (by kernel_rfl) (by kernel_rfl) (by kernel_rfl) ?_; simp only [List.map_cons, List.map_nil]; simp (maxSteps := 1000000) (dsimp := false) (implicitDefEqProofs := false) (disch := omega) only [wrap64, go_sem, scF_app, h0, h1, h2, h3, h4, h5]) | refine awp_block ?_ | (refine awp_skip ?_; simp only [go_sem, scF_app, h0, h1, h2, h3, h4, h5]) | (refine awp_exit ?_; simp only [go_sem, scF_app, h0, h1, h2, h3, h4, h5]) | (refine awp_ret ?_; try simp only [go_sem, scF_app, h0, h1, h2, h3, h4, h5]) | (refine awp_condP rfl ?_; try simp only [go_sem, scF_app, h0, h1, h2, h3, h4, h5]) | (refine BrP.mk (fun h => ?_) (fun h => ?_) <;> try simp (dsimp := false) (disch := omega) only [wrap64]) | (refine Br.mk (fun h => ?_) (fun h => ?_) <;> try simp (dsimp := false) (disch := omega) only [wrap64]) | refine Ob.mk (by first | omega | (intro _ _; rfl) | trivial | (intros; trivial) | assumption | (intro i hi; have h0 : i = 0 := (by omega); subst h0; first | rfl | trivial) | (intro i hi; have h0 : i = 0 ∨ i = 1 := (by omega); rcases h0 with rfl | rfl <;> rfl) | (intro i hi; have h0 : i = 0 ∨ i = 1 ∨ i = 2 := (by omega); rcases h0 with rfl | rfl | rfl <;> rfl)) ?_ | ((first | ((first | refine atF (f := 56) ?_ | refine atQ (f := 56) ?_); (first | (refine cV (hac := inRange_ok _ _ _) (hK := ?_)) | (refine cQV (hac := inRange_ok _ _ _) (hK := ?_))))); simp (maxSteps := 1000000) (dsimp := false) (implicitDefEqProofs := false) (disch := omega) only [wrap64, go_sem, scF_app, h0, h1, h2, h3, h4, h5]) | apply_assumption -exfalso -symm)
  all_goals (first | (show endQ _ _ _ _ _ _ _; (repeat (rename (∀ (A : Fr) (H : Hp), AWP _ _ _ _ A H → _) => hK; clear hK)); (repeat (rename (Fr → Hp → Prop) => K; clear K))) | (show Exists _; (repeat (rename (∀ (A : Fr) (H : Hp), AWP _ _ _ _ A H → _) => hK; clear hK)); (repeat (rename (Fr → Hp → Prop) => K; clear K))) | skip)
  all_goals try omega
  all_goals
    refine end_retB rfl rfl ?_
    clear h0 h1 h2 h3 h4 h5
    unfold ndOk
    cases last <;> first
    | contradiction
    | (simp only [Bool.not_true, Bool.not_false, Bool.false_eq_true, reduceCtorEq, true_and, false_and, or_false, false_or, false_iff, true_iff, decide_eq_true_eq]; omega)
theorem implNode_ok (many : Int) (f : Nat → AV) (x : Nd) (last : Bool) (hf : NdF f x) (hm : 1 ≤ many ∧ many ≤ 8) (hk : x.kids.length ≤ 1048576) : AC Tryd.prog 54 [.agg 6 f, .v (.int .i64 (many)), .v (.bool (last))] Hp.emp (fun _ => false) (retV (.v (.bool (decide (ndOk many x last))))) := by
  have h0 := hf.h0
  have h1 := hf.h1
  have h2 := hf.h2
  have h3 := hf.h3
  have h4 := hf.h4
  have h5 := hf.h5
  clear hf
  refine ac_of_awp (N := ⟨_, fun _ => false, fun _ _ => rfl⟩) Tryd.func54 rfl (by kernel_rfl) Tryd.ntmps54 (by simp) ?_
  simp only [argsFr, List.zipIdx_cons, List.zipIdx_nil, go_sem]
  repeat' (first | refine awp_seqK fun K hK => ?_ | (refine awp_regionK 151124951034971736375503 rfl ?_; simp only [List.map_cons, List.map_nil]; simp (maxSteps := 1000000) (dsimp := false) (implicitDefEqProofs := false) (disch := omega) only [wrap64, go_sem, scF_app, h0, h1, h2, h3, h4, h5]) | (refine awp_regionQK 151124951034971736375503 (by kernel_rfl) (by kernel_rfl) (by kernel_rfl) ?_; simp only [List.map_cons, List.map_nil]; simp (maxSteps := 1000000) (dsimp := false) (implicitDefEqProofs := false) (disch := omega) only [wrap64, go_sem, scF_app, h0, h1, h2, h3, h4, h5]) | refine awp_block ?_ | (refine awp_skip ?_; simp only [go_sem, scF_app, h0, h1, h2, h3, h4, h5]) | (refine awp_exit ?_; simp only [go_sem, scF_app, h0, h1, h2, h3, h4, h5]) | (refine awp_ret ?_; try simp only [go_sem, scF_app, h0, h1, h2, h3, h4, h5]) | (refine awp_condP rfl ?_; try simp only [go_sem, scF_app, h0, h1, h2, h3, h4, h5]) | (refine BrP.mk (fun h => ?_) (fun h => ?_) <;> try simp (dsimp := false) (disch := omega) only [wrap64]) | (refine Br.mk (fun h => ?_) (fun h => ?_) <;> try simp (dsimp := false) (disch := omega) only [wrap64]) | refine Ob.mk (by first | omega | (intro _ _; rfl) | trivial | (intros; trivial) | assumption | (intro i hi; have h0 : i = 0 := (by omega); subst h0; first | rfl | trivial) | (intro i hi; have h0 : i = 0 ∨ i = 1 := (by omega); rcases h0 with rfl | rfl <;> rfl) | (intro i hi; have h0 : i = 0 ∨ i = 1 ∨ i = 2 := (by omega); rcases h0 with rfl | rfl | rfl <;> rfl)) ?_ | ((first | ((first | refine atF (f := 53) ?_ | refine atQ (f := 53) ?_); (first | (refine cV (hac := within_ok _ _ _) (hK := ?_)) | (refine cQV (hac := within_ok _ _ _) (hK := ?_)))) | ((first | refine atF (f := 43) ?_ | refine atQ (f := 43) ?_); (first | (refine cV (hac := length_ok x.kids) (hK := ?_)) | (refine cQV (hac := length_ok x.kids) (hK := ?_))))); simp (maxSteps := 1000000) (dsimp := false) (implicitDefEqProofs := false) (disch := omega) only [wrap64, go_sem, scF_app, h0, h1, h2, h3, h4, h5]) | apply_assumption -exfalso -symm)
  all_goals (first | (show endQ _ _ _ _ _ _ _; (repeat (rename (∀ (A : Fr) (H : Hp), AWP _ _ _ _ A H → _) => hK; clear hK)); (repeat (rename (Fr → Hp → Prop) => K; clear K))) | (show Exists _; (repeat (rename (∀ (A : Fr) (H : Hp), AWP _ _ _ _ A H → _) => hK; clear hK)); (repeat (rename (Fr → Hp → Prop) => K; clear K))) | skip)
  all_goals try omega
  all_goals
    refine end_retB rfl rfl ?_
    clear h0 h1 h2 h3 h4 h5
    unfold ndOk
    cases last <;> first
    | contradiction
    | (simp only [Bool.not_true, Bool.not_false, Bool.false_eq_true, reduceCtorEq, true_and, false_and, or_false, false_or, false_iff, true_iff, decide_eq_true_eq]; omega)
end Go.Proofs.YticbabpajligbaaDoor
end
/- Rows of nodes: the laws' own functions; valid syntax trees, both texts. -/
section
namespace Go.Proofs.YticbabpajligbaaDoor
open Go.Av
set_option linter.unusedSimpArgs false
set_option linter.unusedVariables false
attribute [local irreducible] AWP CallG Ob Br BrP Go.Av.Sub endQ AOps OpV AC thenA blkA opsVC opVC withA withArgs opsQ opQ CallQ withA2 withArgs2
open Go.Nt (Nd nd0 kd ndOk sz szK isNt)
def kss (xs : List Nd) : List (List Int) := xs.map (·.kids)
theorem kss_get (xs : List Nd) (j : Nat) : (kss xs).getD j [] = kd xs j := by
  unfold kss kd
  rw [List.getD_eq_getElem?_getD, List.getElem?_map, List.getD_eq_getElem?_getD]
  cases xs[j]? <;> rfl
theorem kss_len (xs : List Nd) : (kss xs).length = xs.length := by simp [kss]
theorem szNode_ok (f : Nat → AV) (x : Nd) (l : Int) (hf : NdF f x) (hx : x.kids.length ≤ room) (hl : -1 ≤ l ∧ l ≤ 1048576) : AC Tryd.prog 45 [.agg 6 f, .v (.int .i64 (l))] Hp.emp (fun _ => false) (retV (.v (.int .i64 (szI x.kids l)))) := by
  have h5 := hf.h5
  clear hf
  refine ac_of_awp (N := ⟨_, fun _ => false, fun _ _ => rfl⟩) Tryd.func45 rfl (by kernel_rfl) Tryd.ntmps45 (by simp) ?_
  simp only [argsFr, List.zipIdx_cons, List.zipIdx_nil, go_sem]
  repeat' (first | refine awp_seqK fun K hK => ?_ | (refine awp_regionK 1047 rfl ?_; simp only [List.map_cons, List.map_nil]; simp (maxSteps := 1000000) (dsimp := false) (implicitDefEqProofs := false) (disch := omega) only [wrap64, go_sem, scF_app, h5]) | (refine awp_regionQK 1047 (by kernel_rfl) (by kernel_rfl) (by kernel_rfl) ?_; simp only [List.map_cons, List.map_nil]; simp (maxSteps := 1000000) (dsimp := false) (implicitDefEqProofs := false) (disch := omega) only [wrap64, go_sem, scF_app, h5]) | refine awp_block ?_ | (refine awp_skip ?_; simp only [go_sem, scF_app, h5]) | (refine awp_exit ?_; simp only [go_sem, scF_app, h5]) | (refine awp_ret ?_; try simp only [go_sem, scF_app, h5]) | (refine awp_condP rfl ?_; try simp only [go_sem, scF_app, h5]) | (refine BrP.mk (fun h => ?_) (fun h => ?_) <;> try simp (dsimp := false) (disch := omega) only [wrap64]) | (refine Br.mk (fun h => ?_) (fun h => ?_) <;> try simp (dsimp := false) (disch := omega) only [wrap64]) | refine Ob.mk (by first | omega | (intro _ _; rfl) | trivial | (intros; trivial) | assumption | (intro i hi; have h0 : i = 0 := (by omega); subst h0; first | rfl | trivial) | (intro i hi; have h0 : i = 0 ∨ i = 1 := (by omega); rcases h0 with rfl | rfl <;> rfl) | (intro i hi; have h0 : i = 0 ∨ i = 1 ∨ i = 2 := (by omega); rcases h0 with rfl | rfl | rfl <;> rfl)) ?_ | ((first | ((first | refine atF (f := 79) ?_ | refine atQ (f := 79) ?_); (first | (refine cV (hac := szInt64S_ok x.kids l hx hl) (hK := ?_)) | (refine cQV (hac := szInt64S_ok x.kids l hx hl) (hK := ?_))))); simp (maxSteps := 1000000) (dsimp := false) (implicitDefEqProofs := false) (disch := omega) only [wrap64, go_sem, scF_app, h5]) | apply_assumption -exfalso -symm)
  all_goals (first | (show endQ _ _ _ _ _ _ _; (repeat (rename (∀ (A : Fr) (H : Hp), AWP _ _ _ _ A H → _) => hK; clear hK)); (repeat (rename (Fr → Hp → Prop) => K; clear K))) | (show Exists _; (repeat (rename (∀ (A : Fr) (H : Hp), AWP _ _ _ _ A H → _) => hK; clear hK)); (repeat (rename (Fr → Hp → Prop) => K; clear K))) | skip)
  all_goals (refine end_retN rfl rfl ?_; unfold szI at *; split <;> omega)
theorem szNodes_ok (xs : List Nd) (l : Int) (hx : xs.length ≤ room) (hb : ∀ j, (kd xs j).length ≤ room) (hl : -1 ≤ l ∧ l ≤ 1048576) : AC Tryd.prog 12 [nds xs, .v (.int .i64 (l))] Hp.emp (fun _ => false) (retV (.v (.int .i64 (szII (kss xs) l)))) := by
  have hkl := kss_len xs
  unfold room at hx
  refine ac_of_awp (N := ⟨_, fun _ => false, fun _ _ => rfl⟩) Tryd.func12 rfl (by kernel_rfl) Tryd.ntmps12 (by simp) ?_
  simp only [argsFr, List.zipIdx_cons, List.zipIdx_nil, go_sem]
  repeat' (first | refine awp_seqK fun K hK => ?_ | (refine awp_regionK 33589299 rfl ?_; simp only [List.map_cons, List.map_nil]; simp (maxSteps := 1000000) (dsimp := false) (implicitDefEqProofs := false) (disch := omega) only [wrap64, go_sem]) | (refine awp_regionQK 33589299 (by kernel_rfl) (by kernel_rfl) (by kernel_rfl) ?_; simp only [List.map_cons, List.map_nil]; simp (maxSteps := 1000000) (dsimp := false) (implicitDefEqProofs := false) (disch := omega) only [wrap64, go_sem]) | refine awp_block ?_ | (refine awp_skip ?_; simp only [go_sem]) | (refine awp_exit ?_; simp only [go_sem]) | (refine awp_ret ?_; try simp only [go_sem]) | (refine awp_condP rfl ?_; try simp only [go_sem]) | (refine BrP.mk (fun h => ?_) (fun h => ?_) <;> try simp (dsimp := false) (disch := omega) only [wrap64]) | (refine Br.mk (fun h => ?_) (fun h => ?_) <;> try simp (dsimp := false) (disch := omega) only [wrap64]) | refine Ob.mk (by first | omega | (intro _ _; rfl) | trivial | (intros; trivial) | assumption | (intro i hi; have h0 : i = 0 := (by omega); subst h0; first | rfl | trivial) | (intro i hi; have h0 : i = 0 ∨ i = 1 := (by omega); rcases h0 with rfl | rfl <;> rfl) | (intro i hi; have h0 : i = 0 ∨ i = 1 ∨ i = 2 := (by omega); rcases h0 with rfl | rfl | rfl <;> rfl)) ?_ | apply_assumption -exfalso -symm)
  all_goals (first | (show endQ _ _ _ _ _ _ _; (repeat (rename (∀ (A : Fr) (H : Hp), AWP _ _ _ _ A H → _) => hK; clear hK)); (repeat (rename (Fr → Hp → Prop) => K; clear K))) | (show Exists _; (repeat (rename (∀ (A : Fr) (H : Hp), AWP _ _ _ _ A H → _) => hK; clear hK)); (repeat (rename (Fr → Hp → Prop) => K; clear K))) | skip)
  · refine end_retN rfl rfl ?_; unfold szII; rw [if_pos (by omega)]
  refine awp_loop (ι := Nat × Int) (fun p => [(5, .v (.int .i64 (p.1))), (1, .v (.int .i64 (p.2))), (0, nds xs)]) (fun p => Hp.emp) (fun p => p.1 ≤ xs.length ∧ (0 ≤ p.2 ∧ p.2 ≤ 1048576) ∧ szGo ((kss xs).drop p.1) p.2 = szGo (kss xs) (l - xs.length)) (fun p => xs.length - p.1) (0, l - xs.length) ?_ (Sub.toL (by simp only [go_sem] <;> first | trivial | (simp only [Option.some.injEq, AV.v.injEq, AV.own.injEq, AV.list.injEq, Value.int.injEq, Value.bool.injEq, true_and, and_true]; first | omega | (simp; done)) | (simp; done) | (simp; omega)) (by (repeat' (first | exact Hp.le_emp _ | exact Hp.le_refl _ | refine Hp.le_upd ?_ ?_)); all_goals (first | rfl | (simp only [go_sem]; first | rfl | (refine cellsE ?_ ?_ <;> (simp)) | (simp))))) ?_
  · exact ⟨Nat.zero_le _, by omega, rfl⟩
  rintro ⟨i, m⟩ ⟨h1, h2, h3⟩
  dsimp only at h1 h2 h3
  dsimp only
  repeat' (first | refine awp_seqK fun K hK => ?_ | (refine awp_regionK 33589299 rfl ?_; simp only [List.map_cons, List.map_nil]; simp (maxSteps := 1000000) (dsimp := false) (implicitDefEqProofs := false) (disch := omega) only [wrap64, go_sem]) | (refine awp_regionQK 33589299 (by kernel_rfl) (by kernel_rfl) (by kernel_rfl) ?_; simp only [List.map_cons, List.map_nil]; simp (maxSteps := 1000000) (dsimp := false) (implicitDefEqProofs := false) (disch := omega) only [wrap64, go_sem]) | refine awp_block ?_ | (refine awp_skip ?_; simp only [go_sem]) | (refine awp_exit ?_; simp only [go_sem]) | (refine awp_ret ?_; try simp only [go_sem]) | (refine awp_condP rfl ?_; try simp only [go_sem]) | (refine BrP.mk (fun h => ?_) (fun h => ?_) <;> try simp (dsimp := false) (disch := omega) only [wrap64]) | (refine Br.mk (fun h => ?_) (fun h => ?_) <;> try simp (dsimp := false) (disch := omega) only [wrap64]) | refine Ob.mk (by first | omega | (intro _ _; rfl) | trivial | (intros; trivial) | assumption | (intro i hi; have h0 : i = 0 := (by omega); subst h0; first | rfl | trivial) | (intro i hi; have h0 : i = 0 ∨ i = 1 := (by omega); rcases h0 with rfl | rfl <;> rfl) | (intro i hi; have h0 : i = 0 ∨ i = 1 ∨ i = 2 := (by omega); rcases h0 with rfl | rfl | rfl <;> rfl)) ?_ | ((first | ((first | refine atF (f := 45) ?_ | refine atQ (f := 45) ?_); (first | (refine cV (hac := szNode_ok (fun j => ndF xs (i * 6 + j)) (xs.getD i nd0) m (ndF_is xs i) (hb _) (by omega)) (hK := ?_)) | (refine cQV (hac := szNode_ok (fun j => ndF xs (i * 6 + j)) (xs.getD i nd0) m (ndF_is xs i) (hb _) (by omega)) (hK := ?_))))); simp (maxSteps := 1000000) (dsimp := false) (implicitDefEqProofs := false) (disch := omega) only [wrap64, go_sem]) | apply_assumption -exfalso -symm)
  all_goals (first | (show endQ _ _ _ _ _ _ _; (repeat (rename (∀ (A : Fr) (H : Hp), AWP _ _ _ _ A H → _) => hK; clear hK)); (repeat (rename (Fr → Hp → Prop) => K; clear K))) | (show Exists _; (repeat (rename (∀ (A : Fr) (H : Hp), AWP _ _ _ _ A H → _) => hK; clear hK)); (repeat (rename (Fr → Hp → Prop) => K; clear K))) | skip)
  · have h4 := szGo_drop (kss xs) i m (by omega)
    rw [kss_get, if_pos (by assumption)] at h4
    refine end_retN rfl rfl ?_; unfold szII; rw [if_neg (by omega), hkl, ← h3, h4]
  · have h4 := szGo_drop (kss xs) i m (by omega)
    rw [kss_get, if_neg (by assumption)] at h4
    have h5 := szI_bd (xs.getD i nd0).kids m (by omega)
    refine ⟨(i + 1, szI (xs.getD i nd0).kids m), ?_, ?_, Sub.toL (by simp only [go_sem] <;> first | trivial | (simp only [Option.some.injEq, AV.v.injEq, AV.own.injEq, AV.list.injEq, Value.int.injEq, Value.bool.injEq, true_and, and_true]; first | omega | (simp; done)) | (simp; done) | (simp; omega)) (by (repeat' (first | exact Hp.le_emp _ | exact Hp.le_refl _ | refine Hp.le_upd ?_ ?_)); all_goals (first | rfl | (simp only [go_sem]; first | rfl | (refine cellsE ?_ ?_ <;> (simp)) | (simp))))⟩
    · exact ⟨by dsimp only; omega, by dsimp only; omega, by rw [← h3, h4]⟩
    · dsimp only; omega
  · have e : i = (kss xs).length := by omega
    refine end_retN rfl rfl ?_; unfold szII; rw [if_neg (by omega), hkl, ← h3, e, List.drop_length]; rfl
theorem all6 {p : Nat → Prop} (h0 : p 0) (h1 : p 1) (h2 : p 2) (h3 : p 3) (h4 : p 4) (h5 : p 5) : ∀ i, i < 6 → p i := fun i hi => by
  match i, hi with
  | 0, _ => exact h0
  | 1, _ => exact h1
  | 2, _ => exact h2
  | 3, _ => exact h3
  | 4, _ => exact h4
  | 5, _ => exact h5
theorem toNode_frz (f : Nat → AV) (x : Nd) (hf : NdF f x) (hx : x.kids.length ≤ 1048576) : AC Tryd.prog 47 [.agg 6 f] Hp.emp (fun _ => false) (retV (.agg 6 (vecF (ndC x)))) := by
  have h0 := hf.h0
  have h1 := hf.h1
  have h2 := hf.h2
  have h3 := hf.h3
  have h4 := hf.h4
  have h5 := hf.h5
  clear hf
  refine ac_of_awp (N := ⟨_, fun _ => false, fun _ _ => rfl⟩) Tryd.func47 rfl (by kernel_rfl) Tryd.ntmps47 (by simp) ?_
  simp only [argsFr, List.zipIdx_cons, List.zipIdx_nil, go_sem]
  repeat' (first | (refine Ob.mk (all6 rfl rfl rfl rfl rfl rfl) ?_) | refine awp_seqK fun K hK => ?_ | (refine awp_regionK 15 rfl ?_; simp only [List.map_cons, List.map_nil]; simp (maxSteps := 1000000) (dsimp := false) (implicitDefEqProofs := false) (disch := omega) only [wrap64, go_sem, scF_app, h0, h1, h2, h3, h4, h5]) | (refine awp_regionQK 15 (by kernel_rfl) (by kernel_rfl) (by kernel_rfl) ?_; simp only [List.map_cons, List.map_nil]; simp (maxSteps := 1000000) (dsimp := false) (implicitDefEqProofs := false) (disch := omega) only [wrap64, go_sem, scF_app, h0, h1, h2, h3, h4, h5]) | refine awp_block ?_ | (refine awp_skip ?_; simp only [go_sem, scF_app, h0, h1, h2, h3, h4, h5]) | (refine awp_exit ?_; simp only [go_sem, scF_app, h0, h1, h2, h3, h4, h5]) | (refine awp_ret ?_; try simp only [go_sem, scF_app, h0, h1, h2, h3, h4, h5]) | (refine awp_condP rfl ?_; try simp only [go_sem, scF_app, h0, h1, h2, h3, h4, h5]) | (refine BrP.mk (fun h => ?_) (fun h => ?_) <;> try simp (dsimp := false) (disch := omega) only [wrap64]) | (refine Br.mk (fun h => ?_) (fun h => ?_) <;> try simp (dsimp := false) (disch := omega) only [wrap64]) | refine Ob.mk (by first | omega | (intro _ _; rfl) | trivial | (intros; trivial) | assumption | (intro i hi; have h0 : i = 0 := (by omega); subst h0; first | rfl | trivial) | (intro i hi; have h0 : i = 0 ∨ i = 1 := (by omega); rcases h0 with rfl | rfl <;> rfl) | (intro i hi; have h0 : i = 0 ∨ i = 1 ∨ i = 2 := (by omega); rcases h0 with rfl | rfl | rfl <;> rfl)) ?_ | ((first | ((first | refine atF (f := 9) ?_ | refine atQ (f := 9) ?_); (first | (refine cR (hac := toInt64S_frz x.kids hx) (hK := ?_)) | (refine cQR (hac := toInt64S_frz x.kids hx) (hK := ?_))))); simp (maxSteps := 1000000) (dsimp := false) (implicitDefEqProofs := false) (disch := omega) only [wrap64, go_sem, scF_app, h0, h1, h2, h3, h4, h5]) | apply_assumption -exfalso -symm)
  all_goals (first | (show endQ _ _ _ _ _ _ _; (repeat (rename (∀ (A : Fr) (H : Hp), AWP _ _ _ _ A H → _) => hK; clear hK)); (repeat (rename (Fr → Hp → Prop) => K; clear K))) | (show Exists _; (repeat (rename (∀ (A : Fr) (H : Hp), AWP _ _ _ _ A H → _) => hK; clear hK)); (repeat (rename (Fr → Hp → Prop) => K; clear K))) | skip)
  refine end_retC rfl rfl (by simp only [go_sem]; rfl) rfl (by decide) (fun i hi => ?_) (fun i hi => ?_)
  · match i, hi with
    | 0, _ => trivial
    | 1, _ => trivial
    | 2, _ => trivial
    | 3, _ => trivial
    | 4, _ => trivial
    | 5, _ => trivial
  · match i, hi with
    | 0, _ => exact .refl _
    | 1, _ => exact .refl _
    | 2, _ => exact .refl _
    | 3, _ => exact .refl _
    | 4, _ => exact .refl _
    | 5, _ => exact .refl _
theorem nd_scrub (x : Nd) (p : Nat → Bool) : (AV.agg 6 (vecF (ndC x))).scrub p = .agg 6 (vecF (ndC x)) := by
  unfold ndC
  rw [scrub_agg, scF_vecF]; rfl
def fillN (xs : List Nd) (k : Nat) (j : Nat) : AV := if j < k * 6 then ndF xs j else zF [.int .i64 0, .int .i64 0, .int .i64 0, .int .i64 0, .int .i64 0, .slice none 0 0] j
theorem fillN_zero (xs : List Nd) : zF [.int .i64 0, .int .i64 0, .int .i64 0, .int .i64 0, .int .i64 0, .slice none 0 0] = fillN xs 0 := by funext j; simp [fillN]
theorem fillN_step (xs : List Nd) (k : Nat) : setsF (fillN xs k) (k * 6) 6 (vecF (ndC (xs.getD k nd0))) = fillN xs (k + 1) := by
  funext j
  unfold setsF fillN
  by_cases h : k * 6 ≤ j ∧ j < k * 6 + 6
  · rw [if_pos h, if_pos (by omega)]
    have := ndF_at xs k (j - k * 6) (by omega)
    rw [show k * 6 + (j - k * 6) = j by omega] at this
    exact this.symm
  · rw [if_neg h]
    by_cases h2 : j < k * 6
    · rw [if_pos h2, if_pos (by omega)]
    · rw [if_neg h2, if_neg (by omega)]
theorem fillN_if {xs : List Nd} {k n j : Nat} (hk : k < n) : (if k * 6 = 0 ∧ 6 = n * 6 then vecF (ndC (xs.getD k nd0)) else fillN xs (k + 1)) j = (if j < n * 6 then fillN xs (k + 1) j else (if k * 6 = 0 ∧ 6 = n * 6 then vecF (ndC (xs.getD k nd0)) else fillN xs (k + 1)) j) := by
  by_cases hj : j < n * 6
  · rw [if_pos hj]
    by_cases h : k * 6 = 0 ∧ 6 = n * 6
    · rw [if_pos h]
      have h0 : k = 0 := by omega
      subst h0
      unfold fillN
      rw [if_pos (by omega)]
      have := ndF_at xs 0 j (by omega)
      rw [Nat.zero_mul, Nat.zero_add] at this
      exact this.symm
    · rw [if_neg h]
  · rw [if_neg hj]
theorem vecF_scrub {l : List AV} {p : Nat → Bool} (h : ∀ a ∈ l, a.scrub p = a) (i : Nat) : (vecF l i).scrub p = vecF l i := by
  unfold vecF
  rw [List.getD_eq_getElem?_getD]
  cases e : l[i]? with
  | none => rfl
  | some a => exact h a (List.mem_of_getElem? e)
theorem ndC_plain (x : Nd) : ∀ a ∈ ndC x, a.plain ∧ a.one = true ∧ ∀ p, a.scrub p = a := by
  intro a ha
  unfold ndC at ha
  simp only [List.mem_cons, List.not_mem_nil, or_false] at ha
  rcases ha with rfl | rfl | rfl | rfl | rfl | rfl <;> exact ⟨trivial, rfl, fun _ => rfl⟩
theorem vecF_mem {l : List AV} {i : Nat} (h : i < l.length) : vecF l i ∈ l := by
  unfold vecF
  rw [List.getD_eq_getElem?_getD, List.getElem?_eq_getElem h]; exact List.getElem_mem h
theorem ndF_plain (xs : List Nd) (j : Nat) : (ndF xs j).plain ∧ ∀ p, (ndF xs j).scrub p = ndF xs j := by
  unfold ndF
  have h := vecF_mem (l := ndC (xs.getD (j / 6) nd0)) (i := j % 6) (by show j % 6 < 6; omega)
  have := ndC_plain _ _ h
  exact ⟨this.1, this.2.2⟩
theorem scF_fillN (p : Nat → Bool) (xs : List Nd) (k : Nat) : scF p (fillN xs k) = fillN xs k := by
  funext j
  unfold scF fillN
  split
  · exact (ndF_plain xs j).2 p
  · rfl
theorem toNodes_frz (xs : List Nd) (hx : xs.length ≤ 1048576) (hb : ∀ j, (kd xs j).length ≤ 1048576) : AC Tryd.prog 14 [nds xs] Hp.emp (fun _ => false) (retV (nds xs)) := by
  refine ac_of_awp (N := ⟨_, fun _ => false, fun _ _ => rfl⟩) Tryd.func14 rfl (by kernel_rfl) Tryd.ntmps14 (by simp) ?_
  simp only [argsFr, List.zipIdx_cons, List.zipIdx_nil, go_sem]
  repeat' (first | refine awp_seqK fun K hK => ?_ | (refine awp_regionK 2077 rfl ?_; simp only [List.map_cons, List.map_nil]; simp (maxSteps := 1000000) (dsimp := false) (implicitDefEqProofs := false) (disch := omega) only [wrap64, go_sem]) | (refine awp_regionQK 2077 (by kernel_rfl) (by kernel_rfl) (by kernel_rfl) ?_; simp only [List.map_cons, List.map_nil]; simp (maxSteps := 1000000) (dsimp := false) (implicitDefEqProofs := false) (disch := omega) only [wrap64, go_sem]) | refine awp_block ?_ | (refine awp_skip ?_; simp only [go_sem]) | (refine awp_exit ?_; simp only [go_sem]) | (refine awp_ret ?_; try simp only [go_sem]) | (refine awp_condP rfl ?_; try simp only [go_sem]) | (refine BrP.mk (fun h => ?_) (fun h => ?_) <;> try simp (dsimp := false) (disch := omega) only [wrap64]) | (refine Br.mk (fun h => ?_) (fun h => ?_) <;> try simp (dsimp := false) (disch := omega) only [wrap64]) | refine Ob.mk (by first | omega | (intro _ _; rfl) | trivial | (intros; trivial) | assumption | (intro i hi; have h0 : i = 0 := (by omega); subst h0; first | rfl | trivial) | (intro i hi; have h0 : i = 0 ∨ i = 1 := (by omega); rcases h0 with rfl | rfl <;> rfl) | (intro i hi; have h0 : i = 0 ∨ i = 1 ∨ i = 2 := (by omega); rcases h0 with rfl | rfl | rfl <;> rfl)) ?_ | apply_assumption -exfalso -symm)
  all_goals (first | (show endQ _ _ _ _ _ _ _; (repeat (rename (∀ (A : Fr) (H : Hp), AWP _ _ _ _ A H → _) => hK; clear hK)); (repeat (rename (Fr → Hp → Prop) => K; clear K))) | (show Exists _; (repeat (rename (∀ (A : Fr) (H : Hp), AWP _ _ _ _ A H → _) => hK; clear hK)); (repeat (rename (Fr → Hp → Prop) => K; clear K))) | skip)
  refine awp_loop (ι := Nat) (fun k => [(4, .v (.int .i64 (k))), (3, .own 7 0 6 xs.length), (0, nds xs)]) (fun k => Hp.emp.upd 7 (.cells (xs.length * 6) (fillN xs k))) (fun k => k ≤ xs.length) (fun k => xs.length - k) 0 ?_ (Sub.toL (by simp only [go_sem] <;> first | trivial | (simp only [Option.some.injEq, AV.v.injEq, AV.own.injEq, AV.list.injEq, Value.int.injEq, Value.bool.injEq, true_and, and_true]; first | omega | (simp [fillN_zero xs]; done)) | (simp [fillN_zero xs]; done) | (simp [fillN_zero xs]; omega)) (by (repeat' (first | exact Hp.le_emp _ | exact Hp.le_refl _ | refine Hp.le_upd ?_ ?_)); all_goals (first | rfl | (simp only [go_sem]; first | rfl | (refine cellsE ?_ ?_ <;> (simp [fillN_zero xs])) | (simp [fillN_zero xs]))))) ?_
  · exact Nat.zero_le _
  intro k hk
  have h1 : ∀ i, i < 6 → (vecF (ndC (xs.getD k nd0)) i).one = true := fun i hi => (ndC_plain _ _ (vecF_mem hi)).2.1
  repeat' (first | refine awp_seqK fun K hK => ?_ | (refine awp_regionK 2077 rfl ?_; simp only [List.map_cons, List.map_nil]; simp (maxSteps := 1000000) (dsimp := false) (implicitDefEqProofs := false) (disch := omega) only [wrap64, go_sem, fillN_step, scF_fillN]) | (refine awp_regionQK 2077 (by kernel_rfl) (by kernel_rfl) (by kernel_rfl) ?_; simp only [List.map_cons, List.map_nil]; simp (maxSteps := 1000000) (dsimp := false) (implicitDefEqProofs := false) (disch := omega) only [wrap64, go_sem, fillN_step, scF_fillN]) | refine awp_block ?_ | (refine awp_skip ?_; simp only [go_sem, fillN_step, scF_fillN]) | (refine awp_exit ?_; simp only [go_sem, fillN_step, scF_fillN]) | (refine awp_ret ?_; try simp only [go_sem, fillN_step, scF_fillN]) | (refine awp_condP rfl ?_; try simp only [go_sem, fillN_step, scF_fillN]) | (refine BrP.mk (fun h => ?_) (fun h => ?_) <;> try simp (dsimp := false) (disch := omega) only [wrap64]) | (refine Br.mk (fun h => ?_) (fun h => ?_) <;> try simp (dsimp := false) (disch := omega) only [wrap64]) | refine Ob.mk (by first | omega | (intro _ _; rfl) | trivial | (intros; trivial) | assumption | (intro i hi; have h0 : i = 0 := (by omega); subst h0; first | rfl | trivial) | (intro i hi; have h0 : i = 0 ∨ i = 1 := (by omega); rcases h0 with rfl | rfl <;> rfl) | (intro i hi; have h0 : i = 0 ∨ i = 1 ∨ i = 2 := (by omega); rcases h0 with rfl | rfl | rfl <;> rfl)) ?_ | ((first | ((first | refine atF (f := 47) ?_ | refine atQ (f := 47) ?_); refine cR (hac := toNode_frz (fun j => ndF xs (k * 6 + j)) (xs.getD k nd0) (ndF_is xs k) (hb _)) (hs := nd_scrub _ _) (hK := ?_))); simp (maxSteps := 1000000) (dsimp := false) (implicitDefEqProofs := false) (disch := omega) only [wrap64, go_sem, fillN_step, scF_fillN]) | apply_assumption -exfalso -symm)
  all_goals (first | (show endQ _ _ _ _ _ _ _; (repeat (rename (∀ (A : Fr) (H : Hp), AWP _ _ _ _ A H → _) => hK; clear hK)); (repeat (rename (Fr → Hp → Prop) => K; clear K))) | (show Exists _; (repeat (rename (∀ (A : Fr) (H : Hp), AWP _ _ _ _ A H → _) => hK; clear hK)); (repeat (rename (Fr → Hp → Prop) => K; clear K))) | skip)
  · refine ⟨k + 1, by omega, by omega, Sub.toLF (by simp only [go_sem] <;> first | trivial | (simp only [Option.some.injEq, AV.v.injEq, AV.own.injEq, AV.list.injEq, Value.int.injEq, Value.bool.injEq, true_and, and_true]; first | omega | (simp; done)) | (simp; done) | (simp; omega)) (leF_upd rfl (bfE rfl fun i hi => ?_) leF_emp id)⟩
    rw [fillN_if (by omega), if_pos hi]
  · have e : k = xs.length := by omega
    subst e
    refine end_retF rfl rfl (.own rfl trivial (by omega) (fun i _ => (ndF_plain xs i).1) (fun i hi => ?_))
    rw [Nat.zero_add]
    unfold fillN
    rw [if_pos hi]
    exact .refl _
theorem eqNode_ok (f g : Nat → AV) (x y : Nd) (hf : NdF f x) (hg : NdF g y) (hx : x.kids.length ≤ 1048576) : AC Tryd.prog 50 [.agg 6 f, .agg 6 g] Hp.emp (fun _ => false) (retV (.v (.bool (decide (x = y))))) := by
  have h0 := hf.h0
  have h1 := hf.h1
  have h2 := hf.h2
  have h3 := hf.h3
  have h4 := hf.h4
  have h5 := hf.h5
  have k0 := hg.h0
  have k1 := hg.h1
  have k2 := hg.h2
  have k3 := hg.h3
  have k4 := hg.h4
  have k5 := hg.h5
  clear hf hg
  refine ac_of_awp (N := ⟨_, fun _ => false, fun _ _ => rfl⟩) Tryd.func50 rfl (by kernel_rfl) Tryd.ntmps50 (by simp) ?_
  simp only [argsFr, List.zipIdx_cons, List.zipIdx_nil, go_sem]
  repeat' (first | refine awp_seqK fun K hK => ?_ | (refine awp_regionK 34913927711 rfl ?_; simp only [List.map_cons, List.map_nil]; simp (maxSteps := 1000000) (dsimp := false) (implicitDefEqProofs := false) (disch := omega) only [wrap64, go_sem, scF_app, h0, h1, h2, h3, h4, h5, k0, k1, k2, k3, k4, k5]) | (refine awp_regionQK 34913927711 (by kernel_rfl) (by kernel_rfl) (by kernel_rfl) ?_; simp only [List.map_cons, List.map_nil]; simp (maxSteps := 1000000) (dsimp := false) (implicitDefEqProofs := false) (disch := omega) only [wrap64, go_sem, scF_app, h0, h1, h2, h3, h4, h5, k0, k1, k2, k3, k4, k5]) | refine awp_block ?_ | (refine awp_skip ?_; simp only [go_sem, scF_app, h0, h1, h2, h3, h4, h5, k0, k1, k2, k3, k4, k5]) | (refine awp_exit ?_; simp only [go_sem, scF_app, h0, h1, h2, h3, h4, h5, k0, k1, k2, k3, k4, k5]) | (refine awp_ret ?_; try simp only [go_sem, scF_app, h0, h1, h2, h3, h4, h5, k0, k1, k2, k3, k4, k5]) | (refine awp_condP rfl ?_; try simp only [go_sem, scF_app, h0, h1, h2, h3, h4, h5, k0, k1, k2, k3, k4, k5]) | (refine BrP.mk (fun h => ?_) (fun h => ?_) <;> try simp (dsimp := false) (disch := omega) only [wrap64]) | (refine Br.mk (fun h => ?_) (fun h => ?_) <;> try simp (dsimp := false) (disch := omega) only [wrap64]) | refine Ob.mk (by first | omega | (intro _ _; rfl) | trivial | (intros; trivial) | assumption | (intro i hi; have h0 : i = 0 := (by omega); subst h0; first | rfl | trivial) | (intro i hi; have h0 : i = 0 ∨ i = 1 := (by omega); rcases h0 with rfl | rfl <;> rfl) | (intro i hi; have h0 : i = 0 ∨ i = 1 ∨ i = 2 := (by omega); rcases h0 with rfl | rfl | rfl <;> rfl)) ?_ | ((first | ((first | refine atF (f := 11) ?_ | refine atQ (f := 11) ?_); (first | (refine cV (hac := eqInt64S_ok x.kids y.kids hx) (hK := ?_)) | (refine cQV (hac := eqInt64S_ok x.kids y.kids hx) (hK := ?_))))); simp (maxSteps := 1000000) (dsimp := false) (implicitDefEqProofs := false) (disch := omega) only [wrap64, go_sem, scF_app, h0, h1, h2, h3, h4, h5, k0, k1, k2, k3, k4, k5]) | apply_assumption -exfalso -symm)
  all_goals (first | (show endQ _ _ _ _ _ _ _; (repeat (rename (∀ (A : Fr) (H : Hp), AWP _ _ _ _ A H → _) => hK; clear hK)); (repeat (rename (Fr → Hp → Prop) => K; clear K))) | (show Exists _; (repeat (rename (∀ (A : Fr) (H : Hp), AWP _ _ _ _ A H → _) => hK; clear hK)); (repeat (rename (Fr → Hp → Prop) => K; clear K))) | skip)
  all_goals
    refine end_retB rfl rfl ?_
    obtain ⟨a0, a1, a2, a3, a4, a5⟩ := x
    obtain ⟨b0, b1, b2, b3, b4, b5⟩ := y
    simp_all
theorem eq_of_getDN {xs ys : List Nd} (hl : xs.length = ys.length) (h : ∀ j, j < xs.length → xs.getD j nd0 = ys.getD j nd0) : xs = ys := by
  refine List.ext_getElem hl fun i h1 h2 => ?_
  have := h i h1
  simpa [h1, h2] using this
theorem eqNodes_ok (xs ys : List Nd) (hx : xs.length ≤ 1048576) (hb : ∀ j, (kd xs j).length ≤ 1048576) : AC Tryd.prog 16 [nds xs, nds ys] Hp.emp (fun _ => false) (retV (.v (.bool (decide (xs = ys))))) := by
  refine ac_of_awp (N := ⟨_, fun _ => false, fun _ _ => rfl⟩) Tryd.func16 rfl (by kernel_rfl) Tryd.ntmps16 (by simp) ?_
  simp only [argsFr, List.zipIdx_cons, List.zipIdx_nil, go_sem]
  repeat' (first | refine awp_seqK fun K hK => ?_ | (refine awp_regionK 67126323 rfl ?_; simp only [List.map_cons, List.map_nil]; simp (maxSteps := 1000000) (dsimp := false) (implicitDefEqProofs := false) (disch := omega) only [wrap64, go_sem]) | (refine awp_regionQK 67126323 (by kernel_rfl) (by kernel_rfl) (by kernel_rfl) ?_; simp only [List.map_cons, List.map_nil]; simp (maxSteps := 1000000) (dsimp := false) (implicitDefEqProofs := false) (disch := omega) only [wrap64, go_sem]) | refine awp_block ?_ | (refine awp_skip ?_; simp only [go_sem]) | (refine awp_exit ?_; simp only [go_sem]) | (refine awp_ret ?_; try simp only [go_sem]) | (refine awp_condP rfl ?_; try simp only [go_sem]) | (refine BrP.mk (fun h => ?_) (fun h => ?_) <;> try simp (dsimp := false) (disch := omega) only [wrap64]) | (refine Br.mk (fun h => ?_) (fun h => ?_) <;> try simp (dsimp := false) (disch := omega) only [wrap64]) | refine Ob.mk (by first | omega | (intro _ _; rfl) | trivial | (intros; trivial) | assumption | (intro i hi; have h0 : i = 0 := (by omega); subst h0; first | rfl | trivial) | (intro i hi; have h0 : i = 0 ∨ i = 1 := (by omega); rcases h0 with rfl | rfl <;> rfl) | (intro i hi; have h0 : i = 0 ∨ i = 1 ∨ i = 2 := (by omega); rcases h0 with rfl | rfl | rfl <;> rfl)) ?_ | apply_assumption -exfalso -symm)
  all_goals (first | (show endQ _ _ _ _ _ _ _; (repeat (rename (∀ (A : Fr) (H : Hp), AWP _ _ _ _ A H → _) => hK; clear hK)); (repeat (rename (Fr → Hp → Prop) => K; clear K))) | (show Exists _; (repeat (rename (∀ (A : Fr) (H : Hp), AWP _ _ _ _ A H → _) => hK; clear hK)); (repeat (rename (Fr → Hp → Prop) => K; clear K))) | skip)
  · have hl : xs.length = ys.length := by omega
    refine awp_loop (ι := Nat) (fun k => [(5, .v (.int .i64 (k))), (0, nds xs), (1, nds ys)]) (fun k => Hp.emp) (fun k => k ≤ xs.length ∧ ∀ j, j < k → xs.getD j nd0 = ys.getD j nd0) (fun k => xs.length - k) 0 ?_ (Sub.toL (by simp only [go_sem] <;> first | trivial | (simp only [Option.some.injEq, AV.v.injEq, AV.own.injEq, AV.list.injEq, Value.int.injEq, Value.bool.injEq, true_and, and_true]; first | omega | (simp; done)) | (simp; done) | (simp; omega)) (by (repeat' (first | exact Hp.le_emp _ | exact Hp.le_refl _ | refine Hp.le_upd ?_ ?_)); all_goals (first | rfl | (simp only [go_sem]; first | rfl | (refine cellsE ?_ ?_ <;> (simp)) | (simp))))) ?_
    · exact ⟨Nat.zero_le _, fun j h => absurd h (Nat.not_lt_zero _)⟩
    intro k hk
    repeat' (first | refine awp_seqK fun K hK => ?_ | (refine awp_regionK 67126323 rfl ?_; simp only [List.map_cons, List.map_nil]; simp (maxSteps := 1000000) (dsimp := false) (implicitDefEqProofs := false) (disch := omega) only [wrap64, go_sem]) | (refine awp_regionQK 67126323 (by kernel_rfl) (by kernel_rfl) (by kernel_rfl) ?_; simp only [List.map_cons, List.map_nil]; simp (maxSteps := 1000000) (dsimp := false) (implicitDefEqProofs := false) (disch := omega) only [wrap64, go_sem]) | refine awp_block ?_ | (refine awp_skip ?_; simp only [go_sem]) | (refine awp_exit ?_; simp only [go_sem]) | (refine awp_ret ?_; try simp only [go_sem]) | (refine awp_condP rfl ?_; try simp only [go_sem]) | (refine BrP.mk (fun h => ?_) (fun h => ?_) <;> try simp (dsimp := false) (disch := omega) only [wrap64]) | (refine Br.mk (fun h => ?_) (fun h => ?_) <;> try simp (dsimp := false) (disch := omega) only [wrap64]) | refine Ob.mk (by first | omega | (intro _ _; rfl) | trivial | (intros; trivial) | assumption | (intro i hi; have h0 : i = 0 := (by omega); subst h0; first | rfl | trivial) | (intro i hi; have h0 : i = 0 ∨ i = 1 := (by omega); rcases h0 with rfl | rfl <;> rfl) | (intro i hi; have h0 : i = 0 ∨ i = 1 ∨ i = 2 := (by omega); rcases h0 with rfl | rfl | rfl <;> rfl)) ?_ | ((first | ((first | refine atF (f := 50) ?_ | refine atQ (f := 50) ?_); (first | (refine cV (hac := eqNode_ok (fun j => ndF xs (k * 6 + j)) (fun j => ndF ys (k * 6 + j)) (xs.getD k nd0) (ys.getD k nd0) (ndF_is xs k) (ndF_is ys k) (hb _)) (hK := ?_)) | (refine cQV (hac := eqNode_ok (fun j => ndF xs (k * 6 + j)) (fun j => ndF ys (k * 6 + j)) (xs.getD k nd0) (ys.getD k nd0) (ndF_is xs k) (ndF_is ys k) (hb _)) (hK := ?_))))); simp (maxSteps := 1000000) (dsimp := false) (implicitDefEqProofs := false) (disch := omega) only [wrap64, go_sem]) | apply_assumption -exfalso -symm)
    all_goals (first | (show endQ _ _ _ _ _ _ _; (repeat (rename (∀ (A : Fr) (H : Hp), AWP _ _ _ _ A H → _) => hK; clear hK)); (repeat (rename (Fr → Hp → Prop) => K; clear K))) | (show Exists _; (repeat (rename (∀ (A : Fr) (H : Hp), AWP _ _ _ _ A H → _) => hK; clear hK)); (repeat (rename (Fr → Hp → Prop) => K; clear K))) | skip)
    · refine ⟨k + 1, ?_, ?_, Sub.toL (by simp only [go_sem] <;> first | trivial | (simp only [Option.some.injEq, AV.v.injEq, AV.own.injEq, AV.list.injEq, Value.int.injEq, Value.bool.injEq, true_and, and_true]; first | omega | (simp; done)) | (simp; done) | (simp; omega)) (by (repeat' (first | exact Hp.le_emp _ | exact Hp.le_refl _ | refine Hp.le_upd ?_ ?_)); all_goals (first | rfl | (simp only [go_sem]; first | rfl | (refine cellsE ?_ ?_ <;> (simp)) | (simp))))⟩
      · refine ⟨by omega, fun j hj => ?_⟩
        by_cases h' : j = k
        · subst h'; assumption
        · exact hk.2 j (by omega)
      · omega
    · refine end_retB rfl rfl ?_
      simp only [Bool.false_eq_true, false_iff]
      rintro rfl
      exact absurd rfl ‹¬_›
    · refine end_retB rfl rfl ?_
      simp only [true_iff]
      exact eq_of_getDN hl fun j hj => hk.2 j (by omega)
  · exact end_retB rfl rfl (by simp; rintro rfl; simp at h)
end Go.Proofs.YticbabpajligbaaDoor
end
/- Valid syntax trees: both texts. -/
section
namespace Go.Proofs.YticbabpajligbaaDoor
open Go.Av
set_option linter.unusedSimpArgs false
set_option linter.unusedVariables false
attribute [local irreducible] AWP CallG Ob Br BrP Go.Av.Sub endQ AOps OpV AC thenA blkA opsVC opVC withA withArgs opsQ opQ CallQ withA2 withArgs2
open Go.Nt (Nd nd0 kd ndOk sz szK szF isNt runF stp)
def szV (xs : List Nd) (i : Nat) : Int := match sz xs i with
  | none => -1
  | some n => n
theorem take_rev {xs : List Int} {m : Nat} (h : m < xs.length) : (xs.take (m + 1)).reverse = xs.getD m 0 :: (xs.take m).reverse := by
  rw [List.take_add_one, List.getElem?_eq_getElem h, List.getD_eq_getElem?_getD, List.getElem?_eq_getElem h]
  simp
theorem szV_cases (xs : List Nd) (i : Nat) : (szV xs i = -1 ∧ sz xs i = none) ∨ ∃ n : Nat, szV xs i = n ∧ sz xs i = some n ∧ 1 ≤ n ∧ n ≤ i + 1 := by
  unfold szV
  cases h : sz xs i with
  | none => exact .inl ⟨rfl, rfl⟩
  | some n =>
    have := Go.Nt.sz_run xs i n h
    exact .inr ⟨n, rfl, rfl, this.1.1, this.2.1⟩
set_option maxHeartbeats 1000000 in
theorem subtreeSize_ok (xs : List Nd) (hx : xs.length ≤ 200) (hb : ∀ j, (kd xs j).length ≤ 1048576) : ∀ at' : Nat, at' < xs.length → AC Tryd.prog 58 [nds xs, .v (.int .i64 (at'))] Hp.emp (fun _ => false) (retV (.v (.int .i64 (szV xs at')))) := by
  intro at'
  induction at' using Nat.strongRecOn with
  | _ at' ih =>
    intro hat
    have n5 : ndF xs (at' * 6 + 5) = .list false 1 (kd xs at').length (cM iv 0 (kd xs at')) := (ndF_is xs at').h5
    have hbk := hb at'
    have ihz : ∀ z : Int, 0 ≤ z → z < at' → AC Tryd.prog 58 [nds xs, .v (.int .i64 (z))] Hp.emp (fun _ => false) (retV (.v (.int .i64 (szV xs z.toNat)))) := fun z h0 h1 => by
      have := ih z.toNat (by omega) (by omega)
      rwa [show ((z.toNat : Nat) : Int) = z by omega] at this
    clear ih
    refine ac_of_awp (N := ⟨_, fun _ => false, fun _ _ => rfl⟩) Tryd.func58 rfl (by kernel_rfl) Tryd.ntmps58 (by simp) ?_
    simp only [argsFr, List.zipIdx_cons, List.zipIdx_nil, go_sem]
    repeat' (first | refine awp_seqK fun K hK => ?_ | (refine awp_regionK 1133871890931 rfl ?_; simp only [List.map_cons, List.map_nil]; simp (maxSteps := 1000000) (dsimp := false) (implicitDefEqProofs := false) (disch := omega) only [wrap64, go_sem, shF_app, n5]) | (refine awp_regionQK 1133871890931 (by kernel_rfl) (by kernel_rfl) (by kernel_rfl) ?_; simp only [List.map_cons, List.map_nil]; simp (maxSteps := 1000000) (dsimp := false) (implicitDefEqProofs := false) (disch := omega) only [wrap64, go_sem, shF_app, n5]) | refine awp_block ?_ | (refine awp_skip ?_; simp only [go_sem, shF_app, n5]) | (refine awp_exit ?_; simp only [go_sem, shF_app, n5]) | (refine awp_ret ?_; try simp only [go_sem, shF_app, n5]) | (refine awp_condP rfl ?_; try simp only [go_sem, shF_app, n5]) | (refine BrP.mk (fun h => ?_) (fun h => ?_) <;> try simp (dsimp := false) (disch := omega) only [wrap64]) | (refine Br.mk (fun h => ?_) (fun h => ?_) <;> try simp (dsimp := false) (disch := omega) only [wrap64]) | refine Ob.mk (by first | omega | (intro _ _; rfl) | trivial | (intros; trivial) | assumption | (intro i hi; have h0 : i = 0 := (by omega); subst h0; first | rfl | trivial) | (intro i hi; have h0 : i = 0 ∨ i = 1 := (by omega); rcases h0 with rfl | rfl <;> rfl) | (intro i hi; have h0 : i = 0 ∨ i = 1 ∨ i = 2 := (by omega); rcases h0 with rfl | rfl | rfl <;> rfl)) ?_ | apply_assumption -exfalso -symm)
    all_goals (first | (show endQ _ _ _ _ _ _ _; (repeat (rename (∀ (A : Fr) (H : Hp), AWP _ _ _ _ A H → _) => hK; clear hK)); (repeat (rename (Fr → Hp → Prop) => K; clear K))) | (show Exists _; (repeat (rename (∀ (A : Fr) (H : Hp), AWP _ _ _ _ A H → _) => hK; clear hK)); (repeat (rename (Fr → Hp → Prop) => K; clear K))) | skip)
    refine awp_loop (ι := Nat × Nat × Nat) (fun k => [(7, .v (.int .i64 ((k.1 : Int) - 1))), (5, .v (.int .i64 ((k.2.1 : Int) - 1))), (6, .v (.int .i64 ((k.2.2 : Int)))), (0, nds xs), (1, .v (.int .i64 (at')))]) (fun k => Hp.emp) (fun k => k.1 ≤ (kd xs at').length ∧ k.2.1 ≤ at' ∧ k.2.2 + k.2.1 = at' + 1 ∧ szK (sz xs) ((kd xs at').take k.1).reverse k.2.1 k.2.2 = sz xs at') (fun k => k.1) ((kd xs at').length, at', 1) ⟨Nat.le_refl _, Nat.le_refl _, by dsimp only; omega, ?_⟩ (Sub.toL (by simp only [go_sem] <;> first | trivial | (simp only [Option.some.injEq, AV.v.injEq, AV.own.injEq, AV.list.injEq, Value.int.injEq, Value.bool.injEq, true_and, and_true]; first | omega | (simp; done)) | (simp; done) | (simp; omega)) (Hp.le_refl _)) ?_
    · dsimp only
      rw [List.take_length]; exact (Go.Nt.sz_eq xs at').symm
    rintro ⟨m, p, q⟩ ⟨h1, h2, h3, h4⟩
    dsimp only at h1 h2 h3 h4 ⊢
    have em : ((m : Int) - 1).toNat = m - 1 := by omega
    have ep : ((p : Int) - 1).toNat = p - 1 := by omega
    have hc0 := Hold.mk (szV_cases xs (p - 1))
    have hbd : -1 ≤ szV xs (p - 1) ∧ szV xs (p - 1) ≤ ((p - 1 : Nat) : Int) + 1 := by
      rcases hc0.h with h | ⟨n, h, _, h5, h6⟩
      · omega
      · omega
    have hst : Hold (0 < m → szK (sz xs) ((kd xs at').take m).reverse p q = if 0 < p ∧ (kd xs at').getD (m - 1) 0 = (p : Int) - 1 then (match sz xs (p - 1) with | none => none | some n => szK (sz xs) ((kd xs at').take (m - 1)).reverse (p - n) (q + n)) else none) := ⟨fun h => by
      have e := take_rev (xs := kd xs at') (m := m - 1) (by omega)
      rw [show m - 1 + 1 = m by omega] at e
      rw [e]; rfl⟩
    have hno : Hold (sz xs at' = none → szV xs at' = -1) := ⟨fun h => by unfold szV; rw [h]⟩
    have hih := ihz ((p : Int) - 1)
    rw [ep] at hih
    repeat' (first | refine awp_seqK fun K hK => ?_ | (refine awp_regionK 1133871890931 rfl ?_; simp only [List.map_cons, List.map_nil]; simp (maxSteps := 1000000) (dsimp := false) (implicitDefEqProofs := false) (disch := omega) only [wrap64, go_sem, shF_app, n5, em, ep]) | (refine awp_regionQK 1133871890931 (by kernel_rfl) (by kernel_rfl) (by kernel_rfl) ?_; simp only [List.map_cons, List.map_nil]; simp (maxSteps := 1000000) (dsimp := false) (implicitDefEqProofs := false) (disch := omega) only [wrap64, go_sem, shF_app, n5, em, ep]) | refine awp_block ?_ | (refine awp_skip ?_; simp only [go_sem, shF_app, n5, em, ep]) | (refine awp_exit ?_; simp only [go_sem, shF_app, n5, em, ep]) | (refine awp_ret ?_; try simp only [go_sem, shF_app, n5, em, ep]) | (refine awp_condP rfl ?_; try simp only [go_sem, shF_app, n5, em, ep]) | (refine BrP.mk (fun h => ?_) (fun h => ?_) <;> try simp (dsimp := false) (disch := omega) only [wrap64]) | (refine Br.mk (fun h => ?_) (fun h => ?_) <;> try simp (dsimp := false) (disch := omega) only [wrap64]) | refine Ob.mk (by first | omega | (intro _ _; rfl) | trivial | (intros; trivial) | assumption | (intro i hi; have h0 : i = 0 := (by omega); subst h0; first | rfl | trivial) | (intro i hi; have h0 : i = 0 ∨ i = 1 := (by omega); rcases h0 with rfl | rfl <;> rfl) | (intro i hi; have h0 : i = 0 ∨ i = 1 ∨ i = 2 := (by omega); rcases h0 with rfl | rfl | rfl <;> rfl)) ?_ | ((first | (refine cV (hac := hih (by omega) (by omega)) (hK := ?_)) | (refine cQV (hac := hih (by omega) (by omega)) (hK := ?_))); simp (maxSteps := 1000000) (dsimp := false) (implicitDefEqProofs := false) (disch := omega) only [wrap64, go_sem, shF_app, n5, em, ep]) | apply_assumption -exfalso -symm)
    all_goals (first | (show endQ _ _ _ _ _ _ _; (repeat (rename (∀ (A : Fr) (H : Hp), AWP _ _ _ _ A H → _) => hK; clear hK)); (repeat (rename (Fr → Hp → Prop) => K; clear K))) | (show Exists _; (repeat (rename (∀ (A : Fr) (H : Hp), AWP _ _ _ _ A H → _) => hK; clear hK)); (repeat (rename (Fr → Hp → Prop) => K; clear K))) | skip)
    · refine end_retN rfl rfl ?_
      rw [hno.h]
      rw [← h4, hst.h (by omega), if_neg (by omega)]
    · refine end_retN rfl rfl ?_
      rw [hno.h]
      rcases hc0.h with ⟨_, h⟩ | ⟨n, h, _, h5, h6⟩
      · rw [← h4, hst.h (by omega), if_pos ⟨by omega, by omega⟩, h]
      · omega
    · rcases hc0.h with ⟨h, _⟩ | ⟨n, h, hn, h5, h6⟩
      · omega
      · refine ⟨(m - 1, p - n, q + n), ⟨by dsimp only; omega, by dsimp only; omega, by dsimp only; omega, ?_⟩, by dsimp only; omega, Sub.toL (by simp only [go_sem] <;> first | trivial | (simp only [Option.some.injEq, AV.v.injEq, AV.own.injEq, AV.list.injEq, Value.int.injEq, Value.bool.injEq, true_and, and_true]; first | omega | (simp; done)) | (simp; done) | (simp; omega)) (Hp.le_refl _)⟩
        dsimp only
        rw [← h4, hst.h (by omega), if_pos ⟨by omega, by omega⟩, hn]
    · refine end_retN rfl rfl ?_
      rw [hno.h]
      rw [← h4, hst.h (by omega), if_neg (by omega)]
    · have e : m = 0 := by omega
      subst e
      refine end_retN rfl rfl ?_
      rw [List.take_zero] at h4
      unfold szV
      rw [← h4]
      rfl
theorem specIsValidNt_ok (many : Int) (xs : List Nd) (hx : xs.length ≤ 1048576) (hb : ∀ j, (kd xs j).length ≤ 1048576) : AC Tryd.prog 23 [.v (.int .i64 (many)), nds xs] Hp.emp (fun _ => false) (retV (.v (.bool (decide (isNt many xs))))) := by
  refine ac_of_awp (N := ⟨_, fun _ => false, fun _ _ => rfl⟩) Tryd.func23 rfl (by kernel_rfl) Tryd.ntmps23 (by simp) ?_
  simp only [argsFr, List.zipIdx_cons, List.zipIdx_nil, go_sem]
  repeat' (first | refine awp_seqK fun K hK => ?_ | (refine awp_regionK 4295557235 rfl ?_; simp only [List.map_cons, List.map_nil]; simp (maxSteps := 1000000) (dsimp := false) (implicitDefEqProofs := false) (disch := omega) only [wrap64, go_sem]) | (refine awp_regionQK 4295557235 (by kernel_rfl) (by kernel_rfl) (by kernel_rfl) ?_; simp only [List.map_cons, List.map_nil]; simp (maxSteps := 1000000) (dsimp := false) (implicitDefEqProofs := false) (disch := omega) only [wrap64, go_sem]) | refine awp_block ?_ | (refine awp_skip ?_; simp only [go_sem]) | (refine awp_exit ?_; simp only [go_sem]) | (refine awp_ret ?_; try simp only [go_sem]) | (refine awp_condP rfl ?_; try simp only [go_sem]) | (refine BrP.mk (fun h => ?_) (fun h => ?_) <;> try simp (dsimp := false) (disch := omega) only [wrap64]) | (refine Br.mk (fun h => ?_) (fun h => ?_) <;> try simp (dsimp := false) (disch := omega) only [wrap64]) | refine Ob.mk (by first | omega | (intro _ _; rfl) | trivial | (intros; trivial) | assumption | (intro i hi; have h0 : i = 0 := (by omega); subst h0; first | rfl | trivial) | (intro i hi; have h0 : i = 0 ∨ i = 1 := (by omega); rcases h0 with rfl | rfl <;> rfl) | (intro i hi; have h0 : i = 0 ∨ i = 1 ∨ i = 2 := (by omega); rcases h0 with rfl | rfl | rfl <;> rfl)) ?_ | ((first | ((first | refine atF (f := 56) ?_ | refine atQ (f := 56) ?_); (first | (refine cV (hac := inRange_ok _ _ _) (hK := ?_)) | (refine cQV (hac := inRange_ok _ _ _) (hK := ?_))))); simp (maxSteps := 1000000) (dsimp := false) (implicitDefEqProofs := false) (disch := omega) only [wrap64, go_sem]) | apply_assumption -exfalso -symm)
  all_goals (first | (show endQ _ _ _ _ _ _ _; (repeat (rename (∀ (A : Fr) (H : Hp), AWP _ _ _ _ A H → _) => hK; clear hK)); (repeat (rename (Fr → Hp → Prop) => K; clear K))) | (show Exists _; (repeat (rename (∀ (A : Fr) (H : Hp), AWP _ _ _ _ A H → _) => hK; clear hK)); (repeat (rename (Fr → Hp → Prop) => K; clear K))) | skip)
  · refine awp_loop (ι := Nat) (fun k => [(6, .v (.int .i64 (k))), (5, .v (.int .i64 (xs.length))), (0, .v (.int .i64 (many))), (1, nds xs)]) (fun k => Hp.emp) (fun k => k ≤ xs.length ∧ ∀ j, j < k → ndOk many (xs.getD j nd0) (decide (j + 1 = xs.length))) (fun k => xs.length - k) 0 ?_ (Sub.toL (by simp only [go_sem] <;> first | trivial | (simp only [Option.some.injEq, AV.v.injEq, AV.own.injEq, AV.list.injEq, Value.int.injEq, Value.bool.injEq, true_and, and_true]; first | omega | (simp; done)) | (simp; done) | (simp; omega)) (by (repeat' (first | exact Hp.le_emp _ | exact Hp.le_refl _ | refine Hp.le_upd ?_ ?_)); all_goals (first | rfl | (simp only [go_sem]; first | rfl | (refine cellsE ?_ ?_ <;> (simp)) | (simp))))) ?_
    · exact ⟨Nat.zero_le _, fun j h => absurd h (Nat.not_lt_zero _)⟩
    intro k hk
    have hbk := hb k
    have el : decide ((k : Int) = (xs.length : Int) - 1) = decide (k + 1 = xs.length) := by rw [decide_eq_decide]; omega
    have hsz := subtreeSize_ok xs (by omega) hb (xs.length - 1)
    rw [show ((xs.length - 1 : Nat) : Int) = (xs.length : Int) - 1 by omega] at hsz
    repeat' (first | refine awp_seqK fun K hK => ?_ | (refine awp_regionK 4295557235 rfl ?_; simp only [List.map_cons, List.map_nil]; simp (maxSteps := 1000000) (dsimp := false) (implicitDefEqProofs := false) (disch := omega) only [wrap64, go_sem, el]) | (refine awp_regionQK 4295557235 (by kernel_rfl) (by kernel_rfl) (by kernel_rfl) ?_; simp only [List.map_cons, List.map_nil]; simp (maxSteps := 1000000) (dsimp := false) (implicitDefEqProofs := false) (disch := omega) only [wrap64, go_sem, el]) | refine awp_block ?_ | (refine awp_skip ?_; simp only [go_sem, el]) | (refine awp_exit ?_; simp only [go_sem, el]) | (refine awp_ret ?_; try simp only [go_sem, el]) | (refine awp_condP rfl ?_; try simp only [go_sem, el]) | (refine BrP.mk (fun h => ?_) (fun h => ?_) <;> try simp (dsimp := false) (disch := omega) only [wrap64]) | (refine Br.mk (fun h => ?_) (fun h => ?_) <;> try simp (dsimp := false) (disch := omega) only [wrap64]) | refine Ob.mk (by first | omega | (intro _ _; rfl) | trivial | (intros; trivial) | assumption | (intro i hi; have h0 : i = 0 := (by omega); subst h0; first | rfl | trivial) | (intro i hi; have h0 : i = 0 ∨ i = 1 := (by omega); rcases h0 with rfl | rfl <;> rfl) | (intro i hi; have h0 : i = 0 ∨ i = 1 ∨ i = 2 := (by omega); rcases h0 with rfl | rfl | rfl <;> rfl)) ?_ | ((first | ((first | refine atF (f := 57) ?_ | refine atQ (f := 57) ?_); (first | (refine cV (hac := specNode_ok many (fun j => ndF xs (k * 6 + j)) (xs.getD k nd0) (decide (k + 1 = xs.length)) (ndF_is xs k) (by assumption) hbk) (hK := ?_)) | (refine cQV (hac := specNode_ok many (fun j => ndF xs (k * 6 + j)) (xs.getD k nd0) (decide (k + 1 = xs.length)) (ndF_is xs k) (by assumption) hbk) (hK := ?_)))) | (refine cV (hac := hsz (by omega)) (hK := ?_)) | (refine cQV (hac := hsz (by omega)) (hK := ?_))); simp (maxSteps := 1000000) (dsimp := false) (implicitDefEqProofs := false) (disch := omega) only [wrap64, go_sem, el]) | apply_assumption -exfalso -symm)
    all_goals (first | (show endQ _ _ _ _ _ _ _; (repeat (rename (∀ (A : Fr) (H : Hp), AWP _ _ _ _ A H → _) => hK; clear hK)); (repeat (rename (Fr → Hp → Prop) => K; clear K))) | (show Exists _; (repeat (rename (∀ (A : Fr) (H : Hp), AWP _ _ _ _ A H → _) => hK; clear hK)); (repeat (rename (Fr → Hp → Prop) => K; clear K))) | skip)
    · refine ⟨k + 1, ?_, ?_, Sub.toL (by simp only [go_sem] <;> first | trivial | (simp only [Option.some.injEq, AV.v.injEq, AV.own.injEq, AV.list.injEq, Value.int.injEq, Value.bool.injEq, true_and, and_true]; first | omega | (simp; done)) | (simp; done) | (simp; omega)) (by (repeat' (first | exact Hp.le_emp _ | exact Hp.le_refl _ | refine Hp.le_upd ?_ ?_)); all_goals (first | rfl | (simp only [go_sem]; first | rfl | (refine cellsE ?_ ?_ <;> (simp)) | (simp))))⟩
      · refine ⟨by omega, fun j hj => ?_⟩
        by_cases h' : j = k
        · subst h'; assumption
        · exact hk.2 j (by omega)
      · omega
    · refine end_retB rfl rfl ?_
      simp only [Bool.false_eq_true, false_iff]
      rintro ⟨_, _, h3, _⟩
      exact absurd (h3 k (by omega)) (by assumption)
    · refine end_retB rfl rfl ?_
      have e : k = xs.length := by omega
      subst e
      have hv : szV xs (xs.length - 1) = (xs.length : Int) ↔ sz xs (xs.length - 1) = some xs.length := by
        rcases szV_cases xs (xs.length - 1) with ⟨h1, h2⟩ | ⟨n, h1, h2, _⟩
        · rw [h1, h2]
          exact ⟨fun h => by omega, fun h => by cases h⟩
        · rw [h1, h2]
          exact ⟨fun h => by rw [show n = xs.length by omega], fun h => by cases h; rfl⟩
      rw [decide_eq_true_eq, hv]
      exact ⟨fun h => ⟨by assumption, by omega, hk.2, h⟩, fun h => h.2.2.2⟩
  all_goals
    refine end_retB rfl rfl ?_
    simp only [Bool.false_eq_true, false_iff]
    rintro ⟨h1, h2, _⟩
    omega
theorem fits_drop {H : Hp} {D : Nat → Prop} {h off n N : Nat} {st : List Int} (hH : H h = some (.cells N (cM iv 0 st))) (hD : D h) (hN : N = st.length) (hn : off + n = st.length) : Fits H D (.own h off 1 n) (ints (st.drop off)) := by
  have e : n = (st.drop off).length := by rw [List.length_drop]; omega
  subst e
  refine .own hH hD (by omega) (fun i hi => trivial) fun i hi => ?_
  rw [Nat.mul_one] at hi
  refine .ofEq ?_
  unfold cM
  congr 1
  simp [List.getD_eq_getElem?_getD]
theorem lenNd_ok (xs : List Nd) : AC Tryd.prog 49 [nds xs] Hp.emp (fun _ => false) (retV (.v (.int .i64 (xs.length)))) := by
  refine ac_of_awp (N := ⟨_, fun _ => false, fun _ _ => rfl⟩) Tryd.func49 rfl (by kernel_rfl) Tryd.ntmps49 (by simp) ?_
  simp only [argsFr, List.zipIdx_cons, List.zipIdx_nil, go_sem]
  repeat' (first | refine awp_seqK fun K hK => ?_ | (refine awp_regionK 5 rfl ?_; simp only [List.map_cons, List.map_nil]; simp (maxSteps := 1000000) (dsimp := false) (implicitDefEqProofs := false) (disch := omega) only [wrap64, go_sem]) | (refine awp_regionQK 5 (by kernel_rfl) (by kernel_rfl) (by kernel_rfl) ?_; simp only [List.map_cons, List.map_nil]; simp (maxSteps := 1000000) (dsimp := false) (implicitDefEqProofs := false) (disch := omega) only [wrap64, go_sem]) | refine awp_block ?_ | (refine awp_skip ?_; simp only [go_sem]) | (refine awp_exit ?_; simp only [go_sem]) | (refine awp_ret ?_; try simp only [go_sem]) | (refine awp_condP rfl ?_; try simp only [go_sem]) | (refine BrP.mk (fun h => ?_) (fun h => ?_) <;> try simp (dsimp := false) (disch := omega) only [wrap64]) | (refine Br.mk (fun h => ?_) (fun h => ?_) <;> try simp (dsimp := false) (disch := omega) only [wrap64]) | refine Ob.mk (by first | omega | (intro _ _; rfl) | trivial | (intros; trivial) | assumption | (intro i hi; have h0 : i = 0 := (by omega); subst h0; first | rfl | trivial) | (intro i hi; have h0 : i = 0 ∨ i = 1 := (by omega); rcases h0 with rfl | rfl <;> rfl) | (intro i hi; have h0 : i = 0 ∨ i = 1 ∨ i = 2 := (by omega); rcases h0 with rfl | rfl | rfl <;> rfl)) ?_ | apply_assumption -exfalso -symm)
  all_goals (first | (show endQ _ _ _ _ _ _ _; (repeat (rename (∀ (A : Fr) (H : Hp), AWP _ _ _ _ A H → _) => hK; clear hK)); (repeat (rename (Fr → Hp → Prop) => K; clear K))) | (show Exists _; (repeat (rename (∀ (A : Fr) (H : Hp), AWP _ _ _ _ A H → _) => hK; clear hK)); (repeat (rename (Fr → Hp → Prop) => K; clear K))) | skip)
  exact end_retV rfl rfl
theorem cells_take' (o : List Int) (m : Nat) : ∀ i, i < m → cM iv 0 o i = cM iv 0 (o.take m) i := fun i hi => by
  unfold cM
  congr 1
  simp [List.getD_eq_getElem?_getD, List.getElem?_take, hi]
theorem no_run {many : Int} {xs : List Nd} (hv : isNt many xs) {k : Nat} (hk : k < xs.length) {st : List Int} (h : Go.Nt.runF xs 0 k [] = some st) (hs : stp xs k st = none) : False := by
  obtain ⟨st2, h1, _⟩ := (Go.Nt.valid_iff xs xs.length (by omega)).1 hv.2.2.2
  have e : Go.Nt.runF xs 0 (k + 1) [] = none := by
    show (Go.Nt.runF xs 0 k []).bind (stp xs (0 + k)) = _
    rw [h, Nat.zero_add]; exact hs
  have := Go.Nt.runF_add xs 0 (xs.length - (k + 1)) (k + 1) []
  rw [e, show k + 1 + (xs.length - (k + 1)) = xs.length by omega, h1] at this
  cases this
theorem implIsValidNt_ok (many : Int) (xs : List Nd) (hx : xs.length ≤ 1048576) (hb : ∀ j, (kd xs j).length ≤ 1048576) : AC Tryd.prog 21 [.v (.int .i64 (many)), nds xs] Hp.emp (fun _ => false) (retV (.v (.bool (decide (isNt many xs))))) := by
  refine ac_of_awp (N := ⟨_, fun _ => false, fun _ _ => rfl⟩) Tryd.func21 rfl (by kernel_rfl) Tryd.ntmps21 (by simp) ?_
  simp only [argsFr, List.zipIdx_cons, List.zipIdx_nil, go_sem]
  repeat' (first | refine awp_seqK fun K hK => ?_ | (refine awp_regionK 18016597536801267 rfl ?_; simp only [List.map_cons, List.map_nil]; simp (maxSteps := 1000000) (dsimp := false) (implicitDefEqProofs := false) (disch := omega) only [wrap64, go_sem]) | (refine awp_regionQK 18016597536801267 (by kernel_rfl) (by kernel_rfl) (by kernel_rfl) ?_; simp only [List.map_cons, List.map_nil]; simp (maxSteps := 1000000) (dsimp := false) (implicitDefEqProofs := false) (disch := omega) only [wrap64, go_sem]) | refine awp_block ?_ | (refine awp_skip ?_; simp only [go_sem]) | (refine awp_exit ?_; simp only [go_sem]) | (refine awp_ret ?_; try simp only [go_sem]) | (refine awp_condP rfl ?_; try simp only [go_sem]) | (refine BrP.mk (fun h => ?_) (fun h => ?_) <;> try simp (dsimp := false) (disch := omega) only [wrap64]) | (refine Br.mk (fun h => ?_) (fun h => ?_) <;> try simp (dsimp := false) (disch := omega) only [wrap64]) | refine Ob.mk (by first | omega | (intro _ _; rfl) | trivial | (intros; trivial) | assumption | (intro i hi; have h0 : i = 0 := (by omega); subst h0; first | rfl | trivial) | (intro i hi; have h0 : i = 0 ∨ i = 1 := (by omega); rcases h0 with rfl | rfl <;> rfl) | (intro i hi; have h0 : i = 0 ∨ i = 1 ∨ i = 2 := (by omega); rcases h0 with rfl | rfl | rfl <;> rfl)) ?_ | ((first | ((first | refine atF (f := 53) ?_ | refine atQ (f := 53) ?_); (first | (refine cV (hac := within_ok _ _ _) (hK := ?_)) | (refine cQV (hac := within_ok _ _ _) (hK := ?_)))) | ((first | refine atF (f := 49) ?_ | refine atQ (f := 49) ?_); (first | (refine cV (hac := lenNd_ok xs) (hK := ?_)) | (refine cQV (hac := lenNd_ok xs) (hK := ?_))))); simp (maxSteps := 1000000) (dsimp := false) (implicitDefEqProofs := false) (disch := omega) only [wrap64, go_sem]) | apply_assumption -exfalso -symm)
  all_goals (first | (show endQ _ _ _ _ _ _ _; (repeat (rename (∀ (A : Fr) (H : Hp), AWP _ _ _ _ A H → _) => hK; clear hK)); (repeat (rename (Fr → Hp → Prop) => K; clear K))) | (show Exists _; (repeat (rename (∀ (A : Fr) (H : Hp), AWP _ _ _ _ A H → _) => hK; clear hK)); (repeat (rename (Fr → Hp → Prop) => K; clear K))) | skip)
  · refine awp_loop (ι := Nat × List Int) (fun k => [(20, .v (.int .i64 (k.1))), (19, .v (.int .i64 (xs.length))), (18, nds xs), (5, .own 60 0 1 k.2.length), (0, .v (.int .i64 (many))), (1, nds xs)]) (fun k => Hp.emp.upd 60 (.cells k.2.length (cM iv 0 k.2))) (fun k => k.1 ≤ xs.length ∧ (∀ j, j < k.1 → ndOk many (xs.getD j nd0) (decide (j + 1 = xs.length))) ∧ Go.Nt.runF xs 0 k.1 [] = some k.2 ∧ k.2.length ≤ k.1) (fun k => xs.length - k.1) (0, []) ⟨Nat.zero_le _, fun j h => absurd h (Nat.not_lt_zero _), rfl, Nat.le_refl _⟩ (Sub.trans (Sub.nil (i := 5) 60 1 (cM iv 0 []) rfl rfl) (Sub.toL (by simp only [go_sem] <;> first | trivial | (simp only [Option.some.injEq, AV.v.injEq, AV.own.injEq, AV.list.injEq, Value.int.injEq, Value.bool.injEq, true_and, and_true]; first | omega | (simp; done)) | (simp; done) | (simp; omega)) (by (repeat' (first | exact Hp.le_emp _ | exact Hp.le_refl _ | refine Hp.le_upd ?_ ?_)); all_goals (first | rfl | (simp only [go_sem]; first | rfl | (refine cellsE ?_ ?_ <;> (simp)) | (simp)))))) ?_
    rintro ⟨k, st⟩ ⟨hk, hk2, hk3, hk4⟩
    dsimp only at hk hk2 hk3 hk4 ⊢
    have hbk := hb k
    have el : decide ((k : Int) = (xs.length : Int) - 1) = decide (k + 1 = xs.length) := by rw [decide_eq_decide]; omega
    have n5 : ndF xs (k * 6 + 5) = .list false 1 (kd xs k).length (cM iv 0 (kd xs k)) := (ndF_is xs k).h5
    have ebl : ((st.length : Int) - ((kd xs k).length : Int)).toNat = st.length - (kd xs k).length := by omega
    have hone : ∀ i, i < 6 → (ndF xs (k * 6 + i)).one = true := fun i hi => by
      rw [ndF_at xs k i hi]; exact (ndC_plain _ _ (vecF_mem hi)).2.1
    have hsc7 : scF (fun x => x == 7) (fun j => ndF xs (k * 6 + j)) = fun j => ndF xs (k * 6 + j) := by
      funext j; exact (ndF_plain xs _).2 _
    repeat' (first | refine awp_seqK fun K hK => ?_ | (refine awp_regionK 18016597536801267 rfl ?_; simp only [List.map_cons, List.map_nil]; simp (maxSteps := 1000000) (dsimp := false) (implicitDefEqProofs := false) (disch := omega) only [wrap64, go_sem, el, ebl, shF_app, n5, hsc7]) | (refine awp_regionQK 18016597536801267 (by kernel_rfl) (by kernel_rfl) (by kernel_rfl) ?_; simp only [List.map_cons, List.map_nil]; simp (maxSteps := 1000000) (dsimp := false) (implicitDefEqProofs := false) (disch := omega) only [wrap64, go_sem, el, ebl, shF_app, n5, hsc7]) | refine awp_block ?_ | (refine awp_skip ?_; simp only [go_sem, el, ebl, shF_app, n5, hsc7]) | (refine awp_exit ?_; simp only [go_sem, el, ebl, shF_app, n5, hsc7]) | (refine awp_ret ?_; try simp only [go_sem, el, ebl, shF_app, n5, hsc7]) | (refine awp_condP rfl ?_; try simp only [go_sem, el, ebl, shF_app, n5, hsc7]) | (refine BrP.mk (fun h => ?_) (fun h => ?_) <;> try simp (dsimp := false) (disch := omega) only [wrap64]) | (refine Br.mk (fun h => ?_) (fun h => ?_) <;> try simp (dsimp := false) (disch := omega) only [wrap64]) | refine Ob.mk (by first | omega | (intro _ _; rfl) | trivial | (intros; trivial) | assumption | (intro i hi; have h0 : i = 0 := (by omega); subst h0; first | rfl | trivial) | (intro i hi; have h0 : i = 0 ∨ i = 1 := (by omega); rcases h0 with rfl | rfl <;> rfl) | (intro i hi; have h0 : i = 0 ∨ i = 1 ∨ i = 2 := (by omega); rcases h0 with rfl | rfl | rfl <;> rfl)) ?_ | ((first | ((first | refine atF (f := 54) ?_ | refine atQ (f := 54) ?_); (first | (refine cV (hac := implNode_ok many (fun j => ndF xs (k * 6 + j)) (xs.getD k nd0) (decide (k + 1 = xs.length)) (ndF_is xs k) (by assumption) hbk) (hK := ?_)) | (refine cQV (hac := implNode_ok many (fun j => ndF xs (k * 6 + j)) (xs.getD k nd0) (decide (k + 1 = xs.length)) (ndF_is xs k) (by assumption) hbk) (hK := ?_)))) | ((first | refine atF (f := 55) ?_ | refine atQ (f := 55) ?_); refine cQV (hfit := FitsL.cons (fits_drop rfl trivial rfl (by omega)) (FitsL.cons (.refl _) .nil)) (hac := slicesEqual_ok (st.drop (st.length - (kd xs k).length)) (kd xs k) (by rw [List.length_drop]; omega)) (hK := ?_))); simp (maxSteps := 1000000) (dsimp := false) (implicitDefEqProofs := false) (disch := omega) only [wrap64, go_sem, el, ebl, shF_app, n5, hsc7]) | apply_assumption -exfalso -symm)
    all_goals (first | (show endQ _ _ _ _ _ _ _; (repeat (rename (∀ (A : Fr) (H : Hp), AWP _ _ _ _ A H → _) => hK; clear hK)); (repeat (rename (Fr → Hp → Prop) => K; clear K))) | (show Exists _; (repeat (rename (∀ (A : Fr) (H : Hp), AWP _ _ _ _ A H → _) => hK; clear hK)); (repeat (rename (Fr → Hp → Prop) => K; clear K))) | skip)
    · refine end_retB rfl rfl ?_
      simp only [Bool.false_eq_true, false_iff]
      intro hv
      refine no_run hv (k := k) (by omega) hk3 ?_
      unfold stp
      rw [if_neg (by omega)]
    · have hd : List.drop (st.length - (kd xs k).length) st = kd xs k := by assumption
      have hs : stp xs k st = some (st.take (st.length - (kd xs k).length) ++ [(k : Int)]) := by
        unfold stp
        rw [if_pos ⟨by omega, hd⟩]
      have hl : (st.take (st.length - (kd xs k).length) ++ [(k : Int)]).length = st.length - (kd xs k).length - 0 + 1 := by
        rw [List.length_append, List.length_take, List.length_singleton]; omega
      refine ⟨(k + 1, st.take (st.length - (kd xs k).length) ++ [(k : Int)]), ⟨by dsimp only; omega, fun j hj => ?_, ?_, by dsimp only; omega⟩, by dsimp only; omega, ?_⟩
      · dsimp only at hj
        by_cases h' : j = k
        · subst h'; assumption
        · exact hk2 j (by omega)
      · show (Go.Nt.runF xs 0 k []).bind (stp xs (0 + k)) = _
        rw [hk3, Nat.zero_add]; exact hs
      · dsimp only
        rw [hl]
        refine Sub.toLF (by simp only [go_sem] <;> first | trivial | (simp only [Option.some.injEq, AV.v.injEq, AV.own.injEq, AV.list.injEq, Value.int.injEq, Value.bool.injEq, true_and, and_true]; first | omega | (simp; done)) | (simp; done) | (simp; omega)) (leF_upd rfl (bfE rfl fun i hi => ?_) leF_emp id)
        have hl2 : (st.take (st.length - (kd xs k).length)).length = st.length - (kd xs k).length - 0 := by rw [List.length_take]; omega
        rw [← apF_cM, hl2]
        unfold apF
        split
        · exact cells_take' st _ i (by omega)
        · rfl
    · refine end_retB rfl rfl ?_
      simp only [Bool.false_eq_true, false_iff]
      intro hv
      refine no_run hv (k := k) (by omega) hk3 ?_
      unfold stp
      rw [if_neg (fun h => absurd h.2 (by assumption))]
    · refine end_retB rfl rfl ?_
      simp only [Bool.false_eq_true, false_iff]
      intro hv
      exact absurd (hv.2.2.1 k (by omega)) (by assumption)
    · refine end_retB rfl rfl ?_
      have e : k = xs.length := by omega
      subst e
      rw [decide_eq_true_eq]
      have hv := Go.Nt.valid_iff xs xs.length (by omega)
      constructor
      · intro h
        exact ⟨by assumption, by omega, hk2, hv.2 ⟨st, hk3, by omega⟩⟩
      · intro h
        obtain ⟨st2, h1, h2⟩ := hv.1 h.2.2.2
        rw [hk3] at h1
        cases h1
        omega
  all_goals
    refine end_retB rfl rfl ?_
    simp only [Bool.false_eq_true, false_iff]
    rintro ⟨h1, h2, _⟩
    omega
end Go.Proofs.YticbabpajligbaaDoor
end
/- Rows of nodes that come in: their sizes. -/
section
namespace Go.Proofs.YticbabpajligbaaDoor
open Go.Av
set_option linter.unusedSimpArgs false
set_option linter.unusedVariables false
attribute [local irreducible] AWP CallG Ob Br BrP Go.Av.Sub endQ AOps OpV AC thenA blkA opsVC opVC withA withArgs opsQ opQ CallQ withA2 withArgs2
open Go.Nt (Nd nd0 kd)
theorem tot_get : ∀ (xss : List (List Int)) (j : Nat), (xss.getD j []).length ≤ tot xss
  | [], j => by simp
  | x :: xss, 0 => by simp [tot]
  | x :: xss, j + 1 => by
    have := tot_get xss j
    rw [List.getD_cons_succ]
    simp only [tot, List.map_cons, List.sum_cons] at this ⊢; omega
theorem szN_in {xs : List Nd} (h : ¬ szII (kss xs) 1048576 < 0) : xs.length ≤ 1048576 ∧ tot (kss xs) ≤ 1048576 ∧ ∀ j, (kd xs j).length ≤ 1048576 := by
  unfold szII at h
  split at h
  · omega
  · rename_i h0
    have hl := kss_len xs
    have h2 := szGo_tot _ _ (by omega) h
    refine ⟨by omega, by omega, fun j => ?_⟩
    have := tot_get (kss xs) j
    rw [kss_get] at this
    omega
end Go.Proofs.YticbabpajligbaaDoor
end
/- How rows of nodes read. -/
section
namespace Go.Proofs.YticbabpajligbaaDoor
open Go.Av Go.ChangeShapes Go.WideShapes Go.ChangeAt Go.RowKit
open Go.Nt (Nd nd0 kd)
set_option linter.unusedVariables false
section
variable {P : Program} {H : Type} {enc : TypeId × Value → H} {w : World} {base : Nat} {spare : Nat → Bool} {held : Bool} {L : Loc}
theorem rd_node {e : TypeId} {f0 f1 f2 f3 f4 f5 : Field} {q : TypeId} {fuel : Nat} {cs : List Value} {x : DataW H × List MemPlace} (he : P.underlying e = some (.struct #[f0, f1, f2, f3, f4, f5])) (hone : Go.Deep.oneCellFields P #[f0, f1, f2, f3, f4, f5] = true)
    (h0 : P.underlying f0.type = some (.int .i64)) (h1 : P.underlying f1.type = some (.int .i64)) (h2 : P.underlying f2.type = some (.int .i64)) (h3 : P.underlying f3.type = some (.int .i64)) (h4 : P.underlying f4.type = some (.int .i64)) (h5 : P.underlying f5.type = some (.slice q)) (hq : P.underlying q = some (.int .i64)) (cq : P.cellsOf q = 1)
    (hl : cs.length = 6) (h : DataW.trod enc P w base spare held fuel e cs = some x) :
    ∃ y : Nd, (∀ i, i < 6 → ∀ L, Rd w All L (vecF (ndC y) i) (cs.getD i undef)) ∧ y.kids.length ≤ 9223372036854775807 := by
  obtain ⟨xs, n, _, rfl, _, hlen, hf⟩ := DataW.trod_struct he h
  obtain ⟨o0, k0⟩ := Go.Deep.hone_of hone 0 f0 rfl
  obtain ⟨o1, k1⟩ := Go.Deep.hone_of hone 1 f1 rfl
  obtain ⟨o2, k2⟩ := Go.Deep.hone_of hone 2 f2 rfl
  obtain ⟨o3, k3⟩ := Go.Deep.hone_of hone 3 f3 rfl
  obtain ⟨o4, k4⟩ := Go.Deep.hone_of hone 4 f4 rfl
  obtain ⟨o5, k5⟩ := Go.Deep.hone_of hone 5 f5 rfl
  match cs, hl, xs, hlen with
  | [c0, c1, c2, c3, c4, c5], _, [y0, y1, y2, y3, y4, y5], _ =>
    have g0 := hf 0 f0 rfl
    have g1 := hf 1 f1 rfl
    have g2 := hf 2 f2 rfl
    have g3 := hf 3 f3 rfl
    have g4 := hf 4 f4 rfl
    have g5 := hf 5 f5 rfl
    simp [o0, o1, o2, o3, o4, o5, k0, k1, k2, k3, k4, k5] at g0 g1 g2 g3 g4 g5
    obtain ⟨a0, e0, _⟩ := rd_int h0 g0
    obtain ⟨a1, e1, _⟩ := rd_int h1 g1
    obtain ⟨a2, e2, _⟩ := rd_int h2 g2
    obtain ⟨a3, e3, _⟩ := rd_int h3 g3
    obtain ⟨a4, e4, _⟩ := rd_int h4 g4
    obtain ⟨v, zs, e5, r1, r2, _⟩ := rd_ints h5 hq cq g5
    simp only [List.cons.injEq, and_true] at e0 e1 e2 e3 e4 e5
    subst e0 e1 e2 e3 e4 e5
    refine ⟨⟨a0, a1, a2, a3, a4, zs⟩, fun i hi L => ?_, r2⟩
    match i, hi with
    | 0, _ => rfl
    | 1, _ => rfl
    | 2, _ => rfl
    | 3, _ => rfl
    | 4, _ => rfl
    | 5, _ => exact r1 L
theorem rd_nodes {t e : TypeId} {f0 f1 f2 f3 f4 f5 : Field} {q : TypeId} {fuel : Nat} {cs : List Value} {x : DataW H × List MemPlace} (ht : P.underlying t = some (.slice e)) (he : P.underlying e = some (.struct #[f0, f1, f2, f3, f4, f5])) (ce : P.cellsOf e = 6) (hone : Go.Deep.oneCellFields P #[f0, f1, f2, f3, f4, f5] = true)
    (h0 : P.underlying f0.type = some (.int .i64)) (h1 : P.underlying f1.type = some (.int .i64)) (h2 : P.underlying f2.type = some (.int .i64)) (h3 : P.underlying f3.type = some (.int .i64)) (h4 : P.underlying f4.type = some (.int .i64)) (h5 : P.underlying f5.type = some (.slice q)) (hq : P.underlying q = some (.int .i64)) (cq : P.cellsOf q = 1)
    (h : DataW.trod enc P w base spare held fuel t cs = some x) :
    ∃ (v : Value) (xs : List Nd), cs = [v] ∧ (∀ L, Rd w All L (nds xs) v) ∧ xs.length ≤ 9223372036854775807 ∧ ∀ j, (kd xs j).length ≤ 9223372036854775807 := by
  have hm : maxLen = 9223372036854775807 := by decide
  rcases Go.Deep.open_slice ht h with ⟨rfl, _⟩ | ⟨a, len, cap, m, n, D, Pl, rfl, _, hl, hmx, hmm, _, hel⟩
  · exact ⟨_, [], rfl, fun L => ⟨none, 0, rfl, Nat.le_refl _, by simp, fun _ => ⟨rfl, rfl⟩, by simp⟩, by simp, fun j => by simp [kd, nd0]⟩
  · have hlm : len ≤ m := by rw [hmm]; split <;> omega
    have hex : ∀ i, ∃ y : Nd × List Value, i < len → (∀ k, k < 6 → w.cell? (a.add (i * 6 + k)) = some (y.2.getD k undef) ∧ ∀ L, Rd w All L (vecF (ndC y.1) k) (y.2.getD k undef)) ∧ y.1.kids.length ≤ 9223372036854775807 := by
      intro i
      by_cases hi : i < len
      · obtain ⟨cs', g1, g2⟩ := hel i (by omega)
        rw [ce] at g1
        obtain ⟨_, hlen, hcell⟩ := World.cells?_some g1
        obtain ⟨y, r1, r2⟩ := rd_node he hone h0 h1 h2 h3 h4 h5 hq cq hlen g2
        refine ⟨(y, cs'), fun _ => ⟨fun k hk => ⟨?_, r1 k hk⟩, r2⟩⟩
        have := hcell k hk
        rw [Go.Deep.add_add] at this
        rw [this]
        simp [List.getD_eq_getElem?_getD, hlen, hk]
      · exact ⟨(nd0, []), fun h => absurd h hi⟩
    obtain ⟨X, hX⟩ := Classical.axiomOfChoice hex
    have gd : ∀ i, i < len → ((List.range len).map fun i => (X i).1).getD i nd0 = (X i).1 := by intro i hi; simp [hi]
    refine ⟨_, (List.range len).map fun i => (X i).1, rfl, fun L => ⟨some a, cap, by simp, by simpa using hl, by simp, by simp, fun p hp i hi => ?_⟩, by simp; omega, fun j => ?_⟩
    · simp only [Option.some.injEq] at hp
      subst hp
      simp only [List.length_map, List.length_range] at hi
      have hcs := cells_spot (w := w) (a := a) (n := len * 6) (V := fun i => ((X (i / 6)).2.getD (i % 6) undef)) (fun i hi => by
        have := ((hX (i / 6) (by omega)).1 (i % 6) (by omega)).1
        rwa [show i / 6 * 6 + i % 6 = i by omega] at this) i hi
      refine ⟨hcs.1, trivial, _, hcs.2, fun L' => ?_⟩
      unfold ndF
      rw [gd (i / 6) (by omega)]
      exact ((hX (i / 6) (by omega)).1 (i % 6) (by omega)).2 L'
    · unfold kd
      by_cases hj : j < len
      · rw [gd j hj]; exact (hX j hj).2
      · rw [List.getD_eq_getElem?_getD, List.getElem?_eq_none (by simp; omega)]; simp [nd0]
end
end Go.Proofs.YticbabpajligbaaDoor
end
/- Nodes of our own: a row of nodes whose children lie in rows of our own; their marks. -/
section
namespace Go.Proofs.YticbabpajligbaaDoor
open Go.Av
set_option linter.unusedSimpArgs false
set_option linter.unusedVariables false
attribute [local irreducible] AWP CallG Ob Br BrP Go.Av.Sub endQ AOps OpV AC thenA blkA opsVC opVC withA withArgs opsQ opQ CallQ withA2 withArgs2
open Go.Nt (Nd nd0 kd)
section
variable {P : Program} {N : Cx} {A A' : Fr} {H H' : Hp}
/-- The cells of a row of nodes, of which k are laid. -/
def nmF (xs : List Nd) (k j : Nat) : AV := if j < k * 6 then (if j % 6 = 5 then .own (sub 1000000 (j / 6)) 0 1 (kd xs (j / 6)).length else ndF xs j) else zF [.int .i64 0, .int .i64 0, .int .i64 0, .int .i64 0, .int .i64 0, .slice none 0 0] j
/-- A row of n nodes, k of them laid, each with a row of children. -/
def NR (xs : List Nd) (k n : Nat) : Hp := fun h => if h = 1000000 then some (.cells (n * 6) (nmF xs k)) else if h / FB = 1000001 ∧ h % FB < k then some (.cells (kd xs (h % FB)).length (cM iv 0 (kd xs (h % FB)))) else none
theorem NR_self (xs : List Nd) (k n : Nat) : NR xs k n 1000000 = some (.cells (n * 6) (nmF xs k)) := if_pos rfl
theorem NR_sub {xs : List Nd} {k n i : Nat} (hi : i < k) (hk : k ≤ 1048576) : NR xs k n (sub 1000000 i) = some (.cells (kd xs i).length (cM iv 0 (kd xs i))) := by
  have h1 : sub 1000000 i ≠ 1000000 := by have := sub_ge 1000000 i; rw [FB_eq] at this; omega
  have h2 : i < FB := by rw [FB_eq]; omega
  simp [NR, h1, sub_div h2, sub_mod h2, hi]
theorem NR_add_self (xs : List Nd) (k n : Nat) : ((NR xs k n).add H) 1000000 = some (.cells (n * 6) (nmF xs k)) := Hp.add_some (NR_self xs k n)
end
/-- H holds the row of nodes whole. -/
structure HasNR (H : Hp) (xs : List Nd) : Prop where
  top : H 1000000 = some (.cells (xs.length * 6) (nmF xs xs.length))
  row : ∀ i, i < xs.length → H (sub 1000000 i) = some (.cells (kd xs i).length (cM iv 0 (kd xs i)))
section
variable {P : Program} {N : Cx} {A A' : Fr} {H H' : Hp}
theorem HasNR.base {xs : List Nd} (hx : xs.length ≤ 1048576) : HasNR ((NR xs xs.length xs.length).add H) xs := ⟨NR_add_self _ _ _, fun _ hi => Hp.add_some (NR_sub hi hx)⟩
theorem HasNR.upd {xs : List Nd} {e : Nat} {B : Blk} (he : e < 1000000) (h : HasNR H xs) : HasNR (H.upd e B) xs := by
  obtain ⟨h1, h2⟩ := h
  refine ⟨?_, fun i hi => ?_⟩
  · unfold Hp.upd; rw [if_neg (by omega)]; exact h1
  · have := sub_ge 1000000 i; rw [FB_eq] at this
    unfold Hp.upd; rw [if_neg (by omega)]; exact h2 i hi
end
end Go.Proofs.YticbabpajligbaaDoor
end
