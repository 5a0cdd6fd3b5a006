import Derived.Test.YticbabpajligbaaDoorM4
import Derived.Test.YticbabpajligbaaDoorM3
/- Nodes of syntax trees: how they lie, and what both texts say of one. -/
section
namespace Go.Proofs.YticbabpajligbaaDoor
open Go.Av
set_option linter.unusedSimpArgs false
set_option linter.unusedVariables false
attribute [local irreducible] AWP CallG Ob Br BrP Go.Av.Sub endQ AOps OpV AC thenA blkA opsVC opVC withA withArgs opsQ opQ CallQ withA2 withArgs2
open Go.Nt (Nd nd0 kd ndOk sz szK)
def ndC (x : Nd) : List AV := [.v (.int .i64 (x.kind)), .v (.int .i64 (x.move)), .v (.int .i64 (x.count)), .v (.int .i64 (x.inv)), .v (.int .i64 (x.split)), .list false 1 (x.kids).length (cM iv 0 (x.kids))]
def ndF (xs : List Nd) (j : Nat) : AV := vecF (ndC (xs.getD (j / 6) nd0)) (j % 6)
abbrev nds (xs : List Nd) : AV := .list false 6 xs.length (ndF xs)
theorem ndF_at (xs : List Nd) (k i : Nat) (h : i < 6) : ndF xs (k * 6 + i) = vecF (ndC (xs.getD k nd0)) i := by
  unfold ndF
  rw [show (k * 6 + i) / 6 = k by omega, show (k * 6 + i) % 6 = i by omega]
/-- Six cells that hold a node. -/
structure NdF (f : Nat → AV) (x : Nd) : Prop where
  h0 : f 0 = .v (.int .i64 (x.kind))
  h1 : f 1 = .v (.int .i64 (x.move))
  h2 : f 2 = .v (.int .i64 (x.count))
  h3 : f 3 = .v (.int .i64 (x.inv))
  h4 : f 4 = .v (.int .i64 (x.split))
  h5 : f 5 = .list false 1 (x.kids).length (cM iv 0 (x.kids))
theorem NdF.of {f : Nat → AV} {x : Nd} (h : ∀ i, i < 6 → f i = vecF (ndC x) i) : NdF f x := ⟨h 0 (by decide), h 1 (by decide), h 2 (by decide), h 3 (by decide), h 4 (by decide), h 5 (by decide)⟩
theorem ndF_is (xs : List Nd) (k : Nat) : NdF (fun j => ndF xs (k * 6 + j)) (xs.getD k nd0) := .of fun i hi => ndF_at xs k i hi
theorem shF_app (k : Nat) (f : Nat → AV) (i : Nat) : shF k f i = f (k + i) := rfl
theorem scF_app (p : Nat → Bool) (f : Nat → AV) (i : Nat) : scF p f i = (f i).scrub p := rfl
theorem implNode_ok (many : Int) (f : Nat → AV) (x : Nd) (last : Bool) (hf : NdF f x) (hm : 1 ≤ many ∧ many ≤ 8) (hk : x.kids.length ≤ 1048576) : AC Tryd.prog 54 [.agg 6 f, .v (.int .i64 (many)), .v (.bool (last))] Hp.emp (fun _ => false) (retV (.v (.bool (decide (ndOk many x last))))) := by
  have h0 := hf.h0
  have h1 := hf.h1
  have h2 := hf.h2
  have h3 := hf.h3
  have h4 := hf.h4
  have h5 := hf.h5
  clear hf
  refine ac_of_awp (N := ⟨_, fun _ => false, fun _ _ => rfl, true⟩) Tryd.func54 rfl (by kernel_rfl) Tryd.ntmps54 (by simp) ?_
  simp only [argsFr, List.zipIdx_cons, List.zipIdx_nil, go_sem]
  repeat' (first | refine awp_seqK fun K hK => ?_ | (refine awp_regionK 151124951034971736375503 rfl ?_; simp only [List.map_cons, List.map_nil]; simp (maxSteps := 1000000) (dsimp := false) (implicitDefEqProofs := false) (disch := omega) only [wrap64, go_sem, scF_app, h0, h1, h2, h3, h4, h5]) | (refine awp_regionQK 151124951034971736375503 (by kernel_rfl) (by kernel_rfl) (by kernel_rfl) ?_; simp only [List.map_cons, List.map_nil]; simp (maxSteps := 1000000) (dsimp := false) (implicitDefEqProofs := false) (disch := omega) only [wrap64, go_sem, scF_app, h0, h1, h2, h3, h4, h5]) | refine awp_block ?_ | (refine awp_skip ?_; simp only [go_sem, scF_app, h0, h1, h2, h3, h4, h5]) | (refine awp_exit ?_; simp only [go_sem, scF_app, h0, h1, h2, h3, h4, h5]) | (refine awp_ret ?_; try simp only [go_sem, scF_app, h0, h1, h2, h3, h4, h5]) | (refine awp_condP rfl ?_; try simp only [go_sem, scF_app, h0, h1, h2, h3, h4, h5]) | (refine BrP.mk (fun h => ?_) (fun h => ?_) <;> try simp (dsimp := false) (disch := omega) only [wrap64]) | (refine Br.mk (fun h => ?_) (fun h => ?_) <;> try simp (dsimp := false) (disch := omega) only [wrap64]) | refine Ob.mk (by first | omega | (intro _ _; rfl) | trivial | (intros; trivial) | assumption | (intro i hi; have h0 : i = 0 := (by omega); subst h0; first | rfl | trivial) | (intro i hi; have h0 : i = 0 ∨ i = 1 := (by omega); rcases h0 with rfl | rfl <;> rfl) | (intro i hi; have h0 : i = 0 ∨ i = 1 ∨ i = 2 := (by omega); rcases h0 with rfl | rfl | rfl <;> rfl)) ?_ | ((first | ((first | refine atF (f := 53) ?_ | refine atQ (f := 53) ?_); (first | (refine cV (hac := within_ok _ _ _) (hK := ?_)) | (refine cQV (hac := within_ok _ _ _) (hK := ?_)))) | ((first | refine atF (f := 43) ?_ | refine atQ (f := 43) ?_); (first | (refine cV (hac := length_ok x.kids) (hK := ?_)) | (refine cQV (hac := length_ok x.kids) (hK := ?_))))); simp (maxSteps := 1000000) (dsimp := false) (implicitDefEqProofs := false) (disch := omega) only [wrap64, go_sem, scF_app, h0, h1, h2, h3, h4, h5]) | apply_assumption -exfalso -symm)
  all_goals (first | (show endQ _ _ _ _ _ _ _; (repeat (rename (∀ (A : Fr) (H : Hp), AWP _ _ _ _ A H → _) => hK; clear hK)); (repeat (rename (Fr → Hp → Prop) => K; clear K))) | (show Exists _; (repeat (rename (∀ (A : Fr) (H : Hp), AWP _ _ _ _ A H → _) => hK; clear hK)); (repeat (rename (Fr → Hp → Prop) => K; clear K))) | skip)
  all_goals try omega
  all_goals
    refine end_retB rfl rfl ?_
    clear h0 h1 h2 h3 h4 h5
    unfold ndOk
    cases last <;> first
    | contradiction
    | (simp only [Bool.not_true, Bool.not_false, Bool.false_eq_true, reduceCtorEq, true_and, false_and, or_false, false_or, false_iff, true_iff, decide_eq_true_eq]; omega)
end Go.Proofs.YticbabpajligbaaDoor
end
/- Rows of nodes: the laws' own functions; valid syntax trees, both texts. -/
section
namespace Go.Proofs.YticbabpajligbaaDoor
open Go.Av
set_option linter.unusedSimpArgs false
set_option linter.unusedVariables false
attribute [local irreducible] AWP CallG Ob Br BrP Go.Av.Sub endQ AOps OpV AC thenA blkA opsVC opVC withA withArgs opsQ opQ CallQ withA2 withArgs2
open Go.Nt (Nd nd0 kd ndOk sz szK isNt)
theorem all6 {p : Nat → Prop} (h0 : p 0) (h1 : p 1) (h2 : p 2) (h3 : p 3) (h4 : p 4) (h5 : p 5) : ∀ i, i < 6 → p i := fun i hi => by
  match i, hi with
  | 0, _ => exact h0
  | 1, _ => exact h1
  | 2, _ => exact h2
  | 3, _ => exact h3
  | 4, _ => exact h4
  | 5, _ => exact h5
theorem vecF_scrub {l : List AV} {p : Nat → Bool} (h : ∀ a ∈ l, a.scrub p = a) (i : Nat) : (vecF l i).scrub p = vecF l i := by
  unfold vecF
  rw [List.getD_eq_getElem?_getD]
  cases e : l[i]? with
  | none => rfl
  | some a => exact h a (List.mem_of_getElem? e)
theorem ndC_plain (x : Nd) : ∀ a ∈ ndC x, a.plain ∧ a.one = true ∧ ∀ p, a.scrub p = a := by
  intro a ha
  unfold ndC at ha
  simp only [List.mem_cons, List.not_mem_nil, or_false] at ha
  rcases ha with rfl | rfl | rfl | rfl | rfl | rfl <;> exact ⟨trivial, rfl, fun _ => rfl⟩
theorem vecF_mem {l : List AV} {i : Nat} (h : i < l.length) : vecF l i ∈ l := by
  unfold vecF
  rw [List.getD_eq_getElem?_getD, List.getElem?_eq_getElem h]; exact List.getElem_mem h
theorem ndF_plain (xs : List Nd) (j : Nat) : (ndF xs j).plain ∧ ∀ p, (ndF xs j).scrub p = ndF xs j := by
  unfold ndF
  have h := vecF_mem (l := ndC (xs.getD (j / 6) nd0)) (i := j % 6) (by show j % 6 < 6; omega)
  have := ndC_plain _ _ h
  exact ⟨this.1, this.2.2⟩
end Go.Proofs.YticbabpajligbaaDoor
end
/- Valid syntax trees: both texts. -/
section
namespace Go.Proofs.YticbabpajligbaaDoor
open Go.Av
set_option linter.unusedSimpArgs false
set_option linter.unusedVariables false
attribute [local irreducible] AWP CallG Ob Br BrP Go.Av.Sub endQ AOps OpV AC thenA blkA opsVC opVC withA withArgs opsQ opQ CallQ withA2 withArgs2
open Go.Nt (Nd nd0 kd ndOk sz szK szF isNt runF stp)
theorem fits_drop {H : Hp} {D : Nat → Prop} {h off n N : Nat} {st : List Int} (hH : H h = some (.cells N (cM iv 0 st))) (hD : D h) (hN : N = st.length) (hn : off + n = st.length) : Fits H D (.own h off 1 n) (ints (st.drop off)) := by
  have e : n = (st.drop off).length := by rw [List.length_drop]; omega
  subst e
  refine .own hH hD (by omega) (fun i hi => trivial) fun i hi => ?_
  rw [Nat.mul_one] at hi
  refine .ofEq ?_
  unfold cM
  congr 1
  simp [List.getD_eq_getElem?_getD]
theorem lenNd_ok (xs : List Nd) : AC Tryd.prog 49 [nds xs] Hp.emp (fun _ => false) (retV (.v (.int .i64 (xs.length)))) := by
  refine ac_of_awp (N := ⟨_, fun _ => false, fun _ _ => rfl, true⟩) Tryd.func49 rfl (by kernel_rfl) Tryd.ntmps49 (by simp) ?_
  simp only [argsFr, List.zipIdx_cons, List.zipIdx_nil, go_sem]
  repeat' (first | refine awp_seqK fun K hK => ?_ | (refine awp_regionK 5 rfl ?_; simp only [List.map_cons, List.map_nil]; simp (maxSteps := 1000000) (dsimp := false) (implicitDefEqProofs := false) (disch := omega) only [wrap64, go_sem]) | (refine awp_regionQK 5 (by kernel_rfl) (by kernel_rfl) (by kernel_rfl) ?_; simp only [List.map_cons, List.map_nil]; simp (maxSteps := 1000000) (dsimp := false) (implicitDefEqProofs := false) (disch := omega) only [wrap64, go_sem]) | refine awp_block ?_ | (refine awp_skip ?_; simp only [go_sem]) | (refine awp_exit ?_; simp only [go_sem]) | (refine awp_ret ?_; try simp only [go_sem]) | (refine awp_condP rfl ?_; try simp only [go_sem]) | (refine BrP.mk (fun h => ?_) (fun h => ?_) <;> try simp (dsimp := false) (disch := omega) only [wrap64]) | (refine Br.mk (fun h => ?_) (fun h => ?_) <;> try simp (dsimp := false) (disch := omega) only [wrap64]) | refine Ob.mk (by first | omega | (intro _ _; rfl) | trivial | (intros; trivial) | assumption | (intro i hi; have h0 : i = 0 := (by omega); subst h0; first | rfl | trivial) | (intro i hi; have h0 : i = 0 ∨ i = 1 := (by omega); rcases h0 with rfl | rfl <;> rfl) | (intro i hi; have h0 : i = 0 ∨ i = 1 ∨ i = 2 := (by omega); rcases h0 with rfl | rfl | rfl <;> rfl)) ?_ | apply_assumption -exfalso -symm)
  all_goals (first | (show endQ _ _ _ _ _ _ _; (repeat (rename (∀ (A : Fr) (H : Hp), AWP _ _ _ _ A H → _) => hK; clear hK)); (repeat (rename (Fr → Hp → Prop) => K; clear K))) | (show Exists _; (repeat (rename (∀ (A : Fr) (H : Hp), AWP _ _ _ _ A H → _) => hK; clear hK)); (repeat (rename (Fr → Hp → Prop) => K; clear K))) | skip)
  exact end_retV rfl rfl
theorem cells_take' (o : List Int) (m : Nat) : ∀ i, i < m → cM iv 0 o i = cM iv 0 (o.take m) i := fun i hi => by
  unfold cM
  congr 1
  simp [List.getD_eq_getElem?_getD, List.getElem?_take, hi]
theorem no_run {many : Int} {xs : List Nd} (hv : isNt many xs) {k : Nat} (hk : k < xs.length) {st : List Int} (h : Go.Nt.runF xs 0 k [] = some st) (hs : stp xs k st = none) : False := by
  obtain ⟨st2, h1, _⟩ := (Go.Nt.valid_iff xs xs.length (by omega)).1 hv.2.2.2
  have e : Go.Nt.runF xs 0 (k + 1) [] = none := by
    show (Go.Nt.runF xs 0 k []).bind (stp xs (0 + k)) = _
    rw [h, Nat.zero_add]; exact hs
  have := Go.Nt.runF_add xs 0 (xs.length - (k + 1)) (k + 1) []
  rw [e, show k + 1 + (xs.length - (k + 1)) = xs.length by omega, h1] at this
  cases this
theorem implIsValidNt_ok (many : Int) (xs : List Nd) (hx : xs.length ≤ 1048576) (hb : ∀ j, (kd xs j).length ≤ 1048576) : AC Tryd.prog 21 [.v (.int .i64 (many)), nds xs] Hp.emp (fun _ => false) (retV (.v (.bool (decide (isNt many xs))))) := by
  refine ac_of_awp (N := ⟨_, fun _ => false, fun _ _ => rfl, true⟩) Tryd.func21 rfl (by kernel_rfl) Tryd.ntmps21 (by simp) ?_
  simp only [argsFr, List.zipIdx_cons, List.zipIdx_nil, go_sem]
  repeat' (first | refine awp_seqK fun K hK => ?_ | (refine awp_regionK 18016597536801267 rfl ?_; simp only [List.map_cons, List.map_nil]; simp (maxSteps := 1000000) (dsimp := false) (implicitDefEqProofs := false) (disch := omega) only [wrap64, go_sem]) | (refine awp_regionQK 18016597536801267 (by kernel_rfl) (by kernel_rfl) (by kernel_rfl) ?_; simp only [List.map_cons, List.map_nil]; simp (maxSteps := 1000000) (dsimp := false) (implicitDefEqProofs := false) (disch := omega) only [wrap64, go_sem]) | refine awp_block ?_ | (refine awp_skip ?_; simp only [go_sem]) | (refine awp_exit ?_; simp only [go_sem]) | (refine awp_ret ?_; try simp only [go_sem]) | (refine awp_condP rfl ?_; try simp only [go_sem]) | (refine BrP.mk (fun h => ?_) (fun h => ?_) <;> try simp (dsimp := false) (disch := omega) only [wrap64]) | (refine Br.mk (fun h => ?_) (fun h => ?_) <;> try simp (dsimp := false) (disch := omega) only [wrap64]) | refine Ob.mk (by first | omega | (intro _ _; rfl) | trivial | (intros; trivial) | assumption | (intro i hi; have h0 : i = 0 := (by omega); subst h0; first | rfl | trivial) | (intro i hi; have h0 : i = 0 ∨ i = 1 := (by omega); rcases h0 with rfl | rfl <;> rfl) | (intro i hi; have h0 : i = 0 ∨ i = 1 ∨ i = 2 := (by omega); rcases h0 with rfl | rfl | rfl <;> rfl)) ?_ | ((first | ((first | refine atF (f := 53) ?_ | refine atQ (f := 53) ?_); (first | (refine cV (hac := within_ok _ _ _) (hK := ?_)) | (refine cQV (hac := within_ok _ _ _) (hK := ?_)))) | ((first | refine atF (f := 49) ?_ | refine atQ (f := 49) ?_); (first | (refine cV (hac := lenNd_ok xs) (hK := ?_)) | (refine cQV (hac := lenNd_ok xs) (hK := ?_))))); simp (maxSteps := 1000000) (dsimp := false) (implicitDefEqProofs := false) (disch := omega) only [wrap64, go_sem]) | apply_assumption -exfalso -symm)
  all_goals (first | (show endQ _ _ _ _ _ _ _; (repeat (rename (∀ (A : Fr) (H : Hp), AWP _ _ _ _ A H → _) => hK; clear hK)); (repeat (rename (Fr → Hp → Prop) => K; clear K))) | (show Exists _; (repeat (rename (∀ (A : Fr) (H : Hp), AWP _ _ _ _ A H → _) => hK; clear hK)); (repeat (rename (Fr → Hp → Prop) => K; clear K))) | skip)
  · refine awp_loop (ι := Nat × List Int) (fun k => [(20, .v (.int .i64 (k.1))), (19, .v (.int .i64 (xs.length))), (18, nds xs), (5, .own 60 0 1 k.2.length), (0, .v (.int .i64 (many))), (1, nds xs)]) (fun k => Hp.emp.upd 60 (.cells k.2.length (cM iv 0 k.2))) (fun k => k.1 ≤ xs.length ∧ (∀ j, j < k.1 → ndOk many (xs.getD j nd0) (decide (j + 1 = xs.length))) ∧ Go.Nt.runF xs 0 k.1 [] = some k.2 ∧ k.2.length ≤ k.1) (fun k => xs.length - k.1) (0, []) ⟨Nat.zero_le _, fun j h => absurd h (Nat.not_lt_zero _), rfl, Nat.le_refl _⟩ (Sub.trans (Sub.nil (i := 5) 60 1 (cM iv 0 []) rfl rfl) (Sub.toL (by simp only [go_sem] <;> first | trivial | (simp only [Option.some.injEq, AV.v.injEq, AV.own.injEq, AV.list.injEq, Value.int.injEq, Value.bool.injEq, true_and, and_true]; first | omega | (simp; done)) | (simp; done) | (simp; omega)) (by (repeat' (first | exact Hp.le_emp _ | exact Hp.le_refl _ | refine Hp.le_upd ?_ ?_)); all_goals (first | rfl | (simp only [go_sem]; first | rfl | (refine cellsE ?_ ?_ <;> (simp)) | (simp)))))) ?_
    rintro ⟨k, st⟩ ⟨hk, hk2, hk3, hk4⟩
    dsimp only at hk hk2 hk3 hk4 ⊢
    have hbk := hb k
    have el : decide ((k : Int) = (xs.length : Int) - 1) = decide (k + 1 = xs.length) := by rw [decide_eq_decide]; omega
    have n5 : ndF xs (k * 6 + 5) = .list false 1 (kd xs k).length (cM iv 0 (kd xs k)) := (ndF_is xs k).h5
    have ebl : ((st.length : Int) - ((kd xs k).length : Int)).toNat = st.length - (kd xs k).length := by omega
    have hone : ∀ i, i < 6 → (ndF xs (k * 6 + i)).one = true := fun i hi => by
      rw [ndF_at xs k i hi]; exact (ndC_plain _ _ (vecF_mem hi)).2.1
    have hsc7 : scF (fun x => x == 7) (fun j => ndF xs (k * 6 + j)) = fun j => ndF xs (k * 6 + j) := by
      funext j; exact (ndF_plain xs _).2 _
    repeat' (first | refine awp_seqK fun K hK => ?_ | (refine awp_regionK 18016597536801267 rfl ?_; simp only [List.map_cons, List.map_nil]; simp (maxSteps := 1000000) (dsimp := false) (implicitDefEqProofs := false) (disch := omega) only [wrap64, go_sem, el, ebl, shF_app, n5, hsc7]) | (refine awp_regionQK 18016597536801267 (by kernel_rfl) (by kernel_rfl) (by kernel_rfl) ?_; simp only [List.map_cons, List.map_nil]; simp (maxSteps := 1000000) (dsimp := false) (implicitDefEqProofs := false) (disch := omega) only [wrap64, go_sem, el, ebl, shF_app, n5, hsc7]) | refine awp_block ?_ | (refine awp_skip ?_; simp only [go_sem, el, ebl, shF_app, n5, hsc7]) | (refine awp_exit ?_; simp only [go_sem, el, ebl, shF_app, n5, hsc7]) | (refine awp_ret ?_; try simp only [go_sem, el, ebl, shF_app, n5, hsc7]) | (refine awp_condP rfl ?_; try simp only [go_sem, el, ebl, shF_app, n5, hsc7]) | (refine BrP.mk (fun h => ?_) (fun h => ?_) <;> try simp (dsimp := false) (disch := omega) only [wrap64]) | (refine Br.mk (fun h => ?_) (fun h => ?_) <;> try simp (dsimp := false) (disch := omega) only [wrap64]) | refine Ob.mk (by first | omega | (intro _ _; rfl) | trivial | (intros; trivial) | assumption | (intro i hi; have h0 : i = 0 := (by omega); subst h0; first | rfl | trivial) | (intro i hi; have h0 : i = 0 ∨ i = 1 := (by omega); rcases h0 with rfl | rfl <;> rfl) | (intro i hi; have h0 : i = 0 ∨ i = 1 ∨ i = 2 := (by omega); rcases h0 with rfl | rfl | rfl <;> rfl)) ?_ | ((first | ((first | refine atF (f := 54) ?_ | refine atQ (f := 54) ?_); (first | (refine cV (hac := implNode_ok many (fun j => ndF xs (k * 6 + j)) (xs.getD k nd0) (decide (k + 1 = xs.length)) (ndF_is xs k) (by assumption) hbk) (hK := ?_)) | (refine cQV (hac := implNode_ok many (fun j => ndF xs (k * 6 + j)) (xs.getD k nd0) (decide (k + 1 = xs.length)) (ndF_is xs k) (by assumption) hbk) (hK := ?_)))) | ((first | refine atF (f := 55) ?_ | refine atQ (f := 55) ?_); refine cQV (hfit := FitsL.cons (fits_drop rfl trivial rfl (by omega)) (FitsL.cons (.refl _) .nil)) (hac := slicesEqual_ok (st.drop (st.length - (kd xs k).length)) (kd xs k) (by rw [List.length_drop]; omega)) (hK := ?_))); simp (maxSteps := 1000000) (dsimp := false) (implicitDefEqProofs := false) (disch := omega) only [wrap64, go_sem, el, ebl, shF_app, n5, hsc7]) | apply_assumption -exfalso -symm)
    all_goals (first | (show endQ _ _ _ _ _ _ _; (repeat (rename (∀ (A : Fr) (H : Hp), AWP _ _ _ _ A H → _) => hK; clear hK)); (repeat (rename (Fr → Hp → Prop) => K; clear K))) | (show Exists _; (repeat (rename (∀ (A : Fr) (H : Hp), AWP _ _ _ _ A H → _) => hK; clear hK)); (repeat (rename (Fr → Hp → Prop) => K; clear K))) | skip)
    · refine end_retB rfl rfl ?_
      simp only [Bool.false_eq_true, false_iff]
      intro hv
      refine no_run hv (k := k) (by omega) hk3 ?_
      unfold stp
      rw [if_neg (by omega)]
    · have hd : List.drop (st.length - (kd xs k).length) st = kd xs k := by assumption
      have hs : stp xs k st = some (st.take (st.length - (kd xs k).length) ++ [(k : Int)]) := by
        unfold stp
        rw [if_pos ⟨by omega, hd⟩]
      have hl : (st.take (st.length - (kd xs k).length) ++ [(k : Int)]).length = st.length - (kd xs k).length - 0 + 1 := by
        rw [List.length_append, List.length_take, List.length_singleton]; omega
      refine ⟨(k + 1, st.take (st.length - (kd xs k).length) ++ [(k : Int)]), ⟨by dsimp only; omega, fun j hj => ?_, ?_, by dsimp only; omega⟩, by dsimp only; omega, ?_⟩
      · dsimp only at hj
        by_cases h' : j = k
        · subst h'; assumption
        · exact hk2 j (by omega)
      · show (Go.Nt.runF xs 0 k []).bind (stp xs (0 + k)) = _
        rw [hk3, Nat.zero_add]; exact hs
      · dsimp only
        rw [hl]
        refine Sub.toLF (by simp only [go_sem] <;> first | trivial | (simp only [Option.some.injEq, AV.v.injEq, AV.own.injEq, AV.list.injEq, Value.int.injEq, Value.bool.injEq, true_and, and_true]; first | omega | (simp; done)) | (simp; done) | (simp; omega)) (leF_upd rfl (bfE rfl fun i hi => ?_) leF_emp id)
        have hl2 : (st.take (st.length - (kd xs k).length)).length = st.length - (kd xs k).length - 0 := by rw [List.length_take]; omega
        rw [← apF_cM, hl2]
        unfold apF
        split
        · exact cells_take' st _ i (by omega)
        · rfl
    · refine end_retB rfl rfl ?_
      simp only [Bool.false_eq_true, false_iff]
      intro hv
      refine no_run hv (k := k) (by omega) hk3 ?_
      unfold stp
      rw [if_neg (fun h => absurd h.2 (by assumption))]
    · refine end_retB rfl rfl ?_
      simp only [Bool.false_eq_true, false_iff]
      intro hv
      exact absurd (hv.2.2.1 k (by omega)) (by assumption)
    · refine end_retB rfl rfl ?_
      have e : k = xs.length := by omega
      subst e
      rw [decide_eq_true_eq]
      have hv := Go.Nt.valid_iff xs xs.length (by omega)
      constructor
      · intro h
        exact ⟨by assumption, by omega, hk2, hv.2 ⟨st, hk3, by omega⟩⟩
      · intro h
        obtain ⟨st2, h1, h2⟩ := hv.1 h.2.2.2
        rw [hk3] at h1
        cases h1
        omega
  all_goals
    refine end_retB rfl rfl ?_
    simp only [Bool.false_eq_true, false_iff]
    rintro ⟨h1, h2, _⟩
    omega
end Go.Proofs.YticbabpajligbaaDoor
end
/- Rows of nodes that come in: their sizes. -/
section
namespace Go.Proofs.YticbabpajligbaaDoor
open Go.Av
set_option linter.unusedSimpArgs false
set_option linter.unusedVariables false
attribute [local irreducible] AWP CallG Ob Br BrP Go.Av.Sub endQ AOps OpV AC thenA blkA opsVC opVC withA withArgs opsQ opQ CallQ withA2 withArgs2
open Go.Nt (Nd nd0 kd)
end Go.Proofs.YticbabpajligbaaDoor
end
/- Nodes of our own: a row of nodes whose children lie in rows of our own; their marks. -/
section
namespace Go.Proofs.YticbabpajligbaaDoor
open Go.Av
set_option linter.unusedSimpArgs false
set_option linter.unusedVariables false
attribute [local irreducible] AWP CallG Ob Br BrP Go.Av.Sub endQ AOps OpV AC thenA blkA opsVC opVC withA withArgs opsQ opQ CallQ withA2 withArgs2
open Go.Nt (Nd nd0 kd)
def nO (e : AV) (x : Nd) : Nat → AV := vecF [.v (.int .i64 (x.kind)), .v (.int .i64 (x.move)), .v (.int .i64 (x.count)), .v (.int .i64 (x.inv)), .v (.int .i64 (x.split)), e]
section
variable {P : Program} {N : Cx} {A A' : Fr} {H H' : Hp}
/-- The cells of a row of nodes, of which k are laid. -/
def nmF (xs : List Nd) (k j : Nat) : AV := if j < k * 6 then (if j % 6 = 5 then .own (sub 1000000 (j / 6)) 0 1 (kd xs (j / 6)).length else ndF xs j) else zF [.int .i64 0, .int .i64 0, .int .i64 0, .int .i64 0, .int .i64 0, .slice none 0 0] j
/-- A row of n nodes, k of them laid, each with a row of children. -/
def NR (xs : List Nd) (k n : Nat) : Hp := fun h => if h = 1000000 then some (.cells (n * 6) (nmF xs k)) else if h / FB = 1000001 ∧ h % FB < k then some (.cells (kd xs (h % FB)).length (cM iv 0 (kd xs (h % FB)))) else none
theorem NR_self (xs : List Nd) (k n : Nat) : NR xs k n 1000000 = some (.cells (n * 6) (nmF xs k)) := if_pos rfl
theorem NR_sub {xs : List Nd} {k n i : Nat} (hi : i < k) (hk : k ≤ 1048576) : NR xs k n (sub 1000000 i) = some (.cells (kd xs i).length (cM iv 0 (kd xs i))) := by
  have h1 : sub 1000000 i ≠ 1000000 := by have := sub_ge 1000000 i; rw [FB_eq] at this; omega
  have h2 : i < FB := by rw [FB_eq]; omega
  simp [NR, h1, sub_div h2, sub_mod h2, hi]
theorem NR_low {xs : List Nd} {k n h : Nat} (hh : h < 1000000) : NR xs k n h = none := by
  have : h / FB = 0 := top_div (by rw [FB_eq]; omega)
  simp [NR, this]; omega
theorem NR_high {xs : List Nd} {k n h : Nat} (hn : NR xs k n h ≠ none) : 1000000 ≤ h := by
  by_cases hh : h < 1000000
  · exact absurd (NR_low hh) hn
  · omega
theorem NR_cases {xs : List Nd} {k n h : Nat} {B : Blk} (hB : NR xs k n h = some B) : (h = 1000000 ∧ B = .cells (n * 6) (nmF xs k)) ∨ ∃ i, i < k ∧ h = sub 1000000 i ∧ B = .cells (kd xs i).length (cM iv 0 (kd xs i)) := by
  unfold NR at hB
  split at hB
  · rename_i e; simp only [Option.some.injEq] at hB; exact .inl ⟨e, hB.symm⟩
  · split at hB
    · rename_i e; simp only [Option.some.injEq] at hB; exact .inr ⟨_, e.2, sub_of e.1, hB.symm⟩
    · simp at hB
theorem nmF_scr {xs : List Nd} {k : Nat} {p : Nat → Bool} (hp : ∀ i, i < k → p (sub 1000000 i) = false) (j : Nat) : (nmF xs k j).scrub p = nmF xs k j := by
  unfold nmF
  split
  · split
    · simp only [AV.scrub]
      rw [hp (j / 6) (by omega)]; rfl
    · exact (ndF_plain xs j).2 p
  · rfl
theorem NR_scrub {xs : List Nd} {k n : Nat} {p : Nat → Bool} (hp : ∀ i, i < k → p (sub 1000000 i) = false) : (NR xs k n).scrub p = NR xs k n := by
  funext h
  unfold Hp.scrub
  cases e : NR xs k n h with
  | none => rfl
  | some B =>
    rcases NR_cases e with ⟨rfl, rfl⟩ | ⟨i, hi, rfl, rfl⟩
    · simp only [Option.map_some, Option.some.injEq, Blk.scrub]
      congr 1
      funext j
      exact nmF_scr hp j
    · rfl
theorem NR_scr {xs : List Nd} {k n e : Nat} (he : e < 1000000) : (NR xs k n).scrub (· == e) = NR xs k n := NR_scrub fun i _ => by
  have := sub_ge 1000000 i; rw [FB_eq] at this
  rw [beq_eq_false_iff_ne]; omega
theorem NR_add_scr {xs : List Nd} {k n e : Nat} (he : e < 1000000) : ((NR xs k n).add H).scrub (· == e) = (NR xs k n).add (H.scrub (· == e)) := by
  have h1 := NR_scr (xs := xs) (k := k) (n := n) he
  funext h
  have h2 := congrFun h1 h
  unfold Hp.scrub at h2
  unfold Hp.scrub Hp.add
  cases e : NR xs k n h with
  | none => rfl
  | some B => rw [e] at h2; exact h2
theorem NR_add_self (xs : List Nd) (k n : Nat) : ((NR xs k n).add H) 1000000 = some (.cells (n * 6) (nmF xs k)) := Hp.add_some (NR_self xs k n)
end
/-- H holds the row of nodes whole. -/
structure HasNR (H : Hp) (xs : List Nd) : Prop where
  top : H 1000000 = some (.cells (xs.length * 6) (nmF xs xs.length))
  row : ∀ i, i < xs.length → H (sub 1000000 i) = some (.cells (kd xs i).length (cM iv 0 (kd xs i)))
section
variable {P : Program} {N : Cx} {A A' : Fr} {H H' : Hp}
theorem HasNR.base {xs : List Nd} (hx : xs.length ≤ 1048576) : HasNR ((NR xs xs.length xs.length).add H) xs := ⟨NR_add_self _ _ _, fun _ hi => Hp.add_some (NR_sub hi hx)⟩
theorem HasNR.upd {xs : List Nd} {e : Nat} {B : Blk} (he : e < 1000000) (h : HasNR H xs) : HasNR (H.upd e B) xs := by
  obtain ⟨h1, h2⟩ := h
  refine ⟨?_, fun i hi => ?_⟩
  · unfold Hp.upd; rw [if_neg (by omega)]; exact h1
  · have := sub_ge 1000000 i; rw [FB_eq] at this
    unfold Hp.upd; rw [if_neg (by omega)]; exact h2 i hi
theorem fits_NR {xs : List Nd} (h : HasNR H xs) : Fits H (fun _ => True) (.own 1000000 0 6 xs.length) (nds xs) := by
  refine .own h.top trivial (by omega) (fun i _ => (ndF_plain xs i).1) (fun j hj => ?_)
  rw [Nat.zero_add]
  unfold nmF
  rw [if_pos hj]
  split
  · rename_i e
    have e2 : ndF xs j = .list false 1 (kd xs (j / 6)).length (cM iv 0 (kd xs (j / 6))) := by unfold ndF; rw [e]; rfl
    rw [e2]
    exact fits_I (h.row _ (by omega)) trivial rfl rfl
  · exact .refl _
end
end Go.Proofs.YticbabpajligbaaDoor
end
