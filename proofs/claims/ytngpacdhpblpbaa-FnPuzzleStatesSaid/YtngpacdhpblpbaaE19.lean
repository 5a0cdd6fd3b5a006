import Derived.Test.YtngpacdhpblpbaaE5
import Derived.Test.YtngpacdhpblpbaaE2
import Derived.Test.YtngpacdhpblpbaaE18
/- Stabilizer chains: how they lie, and what sifting returns. -/
section
namespace Go.Proofs.Ytngpacdhpblpbaa
open Go.Av
set_option linter.unusedSimpArgs false
set_option linter.unusedVariables false
attribute [local irreducible] AWP CallG Ob Br BrP Go.Av.Sub endQ AOps OpV AC thenA blkA opsVC opVC withA withArgs opsQ opQ CallQ withA2 withArgs2
open Go.Pm (Pm comp invp idn img Ch)

def tF (T : Nat → Option (List Int)) (k : Nat) : AV := match T k with | none => .v (.slice none 0 0) | some p => ints p
theorem tF_none {T : Nat → Option (List Int)} {k : Nat} (h : T k = none) : tF T k = .v (.slice none 0 0) := by unfold tF; rw [h]
theorem tF_some {T : Nat → Option (List Int)} {k : Nat} {p : List Int} (h : T k = some p) : tF T k = .list false 1 p.length (cM iv 0 p) := by unfold tF; rw [h]; rfl
/-- The rows of representatives and the rows of generators, only read. -/
def rowF (n : Nat) (C : Ch) (i : Nat) : AV := .list false 1 n (tF (C.T i))
def genF (C : Ch) (i : Nat) : AV := .list false 1 (C.S i).length (cM ints [] (C.S i))
theorem rowF_app (n : Nat) (C : Ch) (i : Nat) : rowF n C i = .list false 1 n (tF (C.T i)) := rfl
/-- A chain, only read: of the program, and of the reference. -/
def chI (n : Nat) (C : Ch) : AV := .ptr 3 (vecF [.v (.int .i64 n), .list false 1 n (genF C), .list false 1 n (rowF n C)])
theorem nil_no {t : List Int} {n : Nat} (h : t.length = n) (h0 : 0 < n) : (if (false || decide (0 < t.length)) = true then some false else none) = some false := by
  rw [if_pos (by simp; omega)]
theorem has_ok (n : Nat) (C : Ch) (i : Nat) (p : List Int) (hn : n ≤ 20) (hi : i ≤ n) (hw : C.WF n) (hp : Pm n p) : AC Try.prog 75 [chI n C, .v (.int .i64 (i)), ints p] Hp.emp (fun _ => false) (retV (.v (.bool (C.has (n - i) i p)))) := by
  unfold chI
  refine ac_of_awp (N := ⟨_, fun _ => false, fun _ _ => rfl⟩) Try.func75 rfl (by kernel_rfl) Try.ntmps75 (by simp) ?_
  simp only [argsFr, List.zipIdx_cons, List.zipIdx_nil, go_sem]
  repeat' (first | refine awp_seqK fun K hK => ?_ | (refine awp_regionK 4295000519 rfl ?_; simp only [List.map_cons, List.map_nil]; simp (maxSteps := 1000000) (dsimp := false) (implicitDefEqProofs := false) (disch := omega) only [wrap64, go_sem]) | (refine awp_regionQK 4295000519 (by kernel_rfl) (by kernel_rfl) (by kernel_rfl) ?_; simp only [List.map_cons, List.map_nil]; simp (maxSteps := 1000000) (dsimp := false) (implicitDefEqProofs := false) (disch := omega) only [wrap64, go_sem]) | refine awp_block ?_ | (refine awp_skip ?_; simp only [go_sem]) | (refine awp_exit ?_; simp only [go_sem]) | (refine awp_ret ?_; try simp only [go_sem]) | (refine awp_condP rfl ?_; try simp only [go_sem]) | (refine BrP.mk (fun h => ?_) (fun h => ?_) <;> try simp (dsimp := false) (disch := omega) only [wrap64]) | (refine Br.mk (fun h => ?_) (fun h => ?_) <;> try simp (dsimp := false) (disch := omega) only [wrap64]) | refine Ob.mk (by first | omega | (intro _ _; rfl) | trivial | (intros; trivial) | assumption | (intro i hi; have h0 : i = 0 := (by omega); subst h0; first | rfl | trivial) | (intro i hi; have h0 : i = 0 ∨ i = 1 := (by omega); rcases h0 with rfl | rfl <;> rfl) | (intro i hi; have h0 : i = 0 ∨ i = 1 ∨ i = 2 := (by omega); rcases h0 with rfl | rfl | rfl <;> rfl)) ?_ | apply_assumption -exfalso -symm)
  all_goals (first | (show endQ _ _ _ _ _ _ _; (repeat (rename (∀ (A : Fr) (H : Hp), AWP _ _ _ _ A H → _) => hK; clear hK)); (repeat (rename (Fr → Hp → Prop) => K; clear K))) | (show Exists _; (repeat (rename (∀ (A : Fr) (H : Hp), AWP _ _ _ _ A H → _) => hK; clear hK)); (repeat (rename (Fr → Hp → Prop) => K; clear K))) | skip)
  refine awp_loop (ι := Nat × List Int) (fun x => [(7, .v (.int .i64 (x.1))), (2, .list false 1 (x.2).length (cM iv 0 (x.2))), (0, chI n C)]) (fun x => Hp.emp) (fun x => x.1 ≤ n ∧ Pm n x.2 ∧ C.has (n - i) i p = C.has (n - x.1) x.1 x.2) (fun x => n - x.1) (i, p) ?_ (Sub.toL (by simp only [go_sem] <;> first | trivial | (simp only [Option.some.injEq, AV.v.injEq, AV.own.injEq, AV.list.injEq, Value.int.injEq, Value.bool.injEq, true_and, and_true]; first | omega | (simp [chI]; done)) | (simp [chI]; done) | (simp [chI]; omega)) (by (repeat' (first | exact Hp.le_emp _ | exact Hp.le_refl _ | refine Hp.le_upd ?_ ?_)); all_goals (first | rfl | (simp only [go_sem]; first | rfl | (refine cellsE ?_ ?_ <;> (simp [chI])) | (simp [chI]))))) ?_
  · exact ⟨hi, hp, rfl⟩
  rintro ⟨k, q⟩ ⟨hk, hq, he⟩
  dsimp only at hk hq he ⊢
  unfold chI
  have hql := hq.1
  have hlt : k < n → 0 ≤ q.getD k 0 ∧ q.getD k 0 < n := hq.2.1 k
  have hstep : k < n → C.has (n - k) k q = match C.T k (img q k) with | none => false | some t => C.has (n - (k + 1)) (k + 1) (comp q (invp t)) := fun h => by
    rw [show n - k = (n - (k + 1)) + 1 by omega]; rfl
  cases hT : C.T k (img q k) with
  | none =>
    have hTF : tF (C.T k) (q.getD k 0).toNat = .v (.slice none 0 0) := tF_none hT
    repeat' (first | refine awp_seqK fun K hK => ?_ | (refine awp_regionK 4295000519 rfl ?_; simp only [List.map_cons, List.map_nil]; simp (maxSteps := 1000000) (dsimp := false) (implicitDefEqProofs := false) (disch := omega) only [wrap64, go_sem, rowF_app, hTF]) | (refine awp_regionQK 4295000519 (by kernel_rfl) (by kernel_rfl) (by kernel_rfl) ?_; simp only [List.map_cons, List.map_nil]; simp (maxSteps := 1000000) (dsimp := false) (implicitDefEqProofs := false) (disch := omega) only [wrap64, go_sem, rowF_app, hTF]) | refine awp_block ?_ | (refine awp_skip ?_; simp only [go_sem, rowF_app, hTF]) | (refine awp_exit ?_; simp only [go_sem, rowF_app, hTF]) | (refine awp_ret ?_; try simp only [go_sem, rowF_app, hTF]) | (refine awp_condP rfl ?_; try simp only [go_sem, rowF_app, hTF]) | (refine BrP.mk (fun h => ?_) (fun h => ?_) <;> try simp (dsimp := false) (disch := omega) only [wrap64]) | (refine Br.mk (fun h => ?_) (fun h => ?_) <;> try simp (dsimp := false) (disch := omega) only [wrap64]) | refine Ob.mk (by first | omega | (intro _ _; rfl) | trivial | (intros; trivial) | assumption | (intro i hi; have h0 : i = 0 := (by omega); subst h0; first | rfl | trivial) | (intro i hi; have h0 : i = 0 ∨ i = 1 := (by omega); rcases h0 with rfl | rfl <;> rfl) | (intro i hi; have h0 : i = 0 ∨ i = 1 ∨ i = 2 := (by omega); rcases h0 with rfl | rfl | rfl <;> rfl)) ?_ | apply_assumption -exfalso -symm)
    all_goals (first | (show endQ _ _ _ _ _ _ _; (repeat (rename (∀ (A : Fr) (H : Hp), AWP _ _ _ _ A H → _) => hK; clear hK)); (repeat (rename (Fr → Hp → Prop) => K; clear K))) | (show Exists _; (repeat (rename (∀ (A : Fr) (H : Hp), AWP _ _ _ _ A H → _) => hK; clear hK)); (repeat (rename (Fr → Hp → Prop) => K; clear K))) | skip)
    · exact end_retV' rfl rfl (by rw [he, hstep (by omega), hT])
    · exact end_retV' rfl rfl (by rw [he, show n - k = 0 by omega]; rfl)
  | some t =>
    have hTF : tF (C.T k) (q.getD k 0).toNat = .list false 1 t.length (cM iv 0 t) := tF_some hT
    have ht : k < n → Pm n t := fun h => (hw.t1 k _ t h hT).1
    have htl : k < n → t.length = n := fun h => (ht h).1
    have hnl := fun h : k < n => nil_no (htl h) (by omega)
    repeat' (first | refine awp_seqK fun K hK => ?_ | (refine awp_regionK 4295000519 rfl ?_; simp only [List.map_cons, List.map_nil]; simp (maxSteps := 1000000) (dsimp := false) (implicitDefEqProofs := false) (disch := omega) only [wrap64, go_sem, rowF_app, hTF, hnl]) | (refine awp_regionQK 4295000519 (by kernel_rfl) (by kernel_rfl) (by kernel_rfl) ?_; simp only [List.map_cons, List.map_nil]; simp (maxSteps := 1000000) (dsimp := false) (implicitDefEqProofs := false) (disch := omega) only [wrap64, go_sem, rowF_app, hTF, hnl]) | refine awp_block ?_ | (refine awp_skip ?_; simp only [go_sem, rowF_app, hTF, hnl]) | (refine awp_exit ?_; simp only [go_sem, rowF_app, hTF, hnl]) | (refine awp_ret ?_; try simp only [go_sem, rowF_app, hTF, hnl]) | (refine awp_condP rfl ?_; try simp only [go_sem, rowF_app, hTF, hnl]) | (refine BrP.mk (fun h => ?_) (fun h => ?_) <;> try simp (dsimp := false) (disch := omega) only [wrap64]) | (refine Br.mk (fun h => ?_) (fun h => ?_) <;> try simp (dsimp := false) (disch := omega) only [wrap64]) | refine Ob.mk (by first | omega | (intro _ _; rfl) | trivial | (intros; trivial) | assumption | (intro i hi; have h0 : i = 0 := (by omega); subst h0; first | rfl | trivial) | (intro i hi; have h0 : i = 0 ∨ i = 1 := (by omega); rcases h0 with rfl | rfl <;> rfl) | (intro i hi; have h0 : i = 0 ∨ i = 1 ∨ i = 2 := (by omega); rcases h0 with rfl | rfl | rfl <;> rfl)) ?_ | ((first | ((first | refine atF (f := 139) ?_ | refine atQ (f := 139) ?_); (first | (refine cFI (hac := implInverse_ok t (by omega) (by rw [htl (by omega)]; exact ht (by omega)) 9) (hK := ?_)) | (refine cQI (hac := implInverse_ok t (by omega) (by rw [htl (by omega)]; exact ht (by omega)) 9) (hK := ?_)))) | ((first | refine atF (f := 132) ?_ | refine atQ (f := 132) ?_); (first | (refine cFI (hac := implCompose_ok q (invp t) (by omega) (pm_lt hq (ht (by omega)).inv) 9) (hK := ?_)) | (refine cQI (hac := implCompose_ok q (invp t) (by omega) (pm_lt hq (ht (by omega)).inv) 9) (hK := ?_))))); simp (maxSteps := 1000000) (dsimp := false) (implicitDefEqProofs := false) (disch := omega) only [wrap64, go_sem, rowF_app, hTF, hnl]) | apply_assumption -exfalso -symm)
    all_goals (first | (show endQ _ _ _ _ _ _ _; (repeat (rename (∀ (A : Fr) (H : Hp), AWP _ _ _ _ A H → _) => hK; clear hK)); (repeat (rename (Fr → Hp → Prop) => K; clear K))) | (show Exists _; (repeat (rename (∀ (A : Fr) (H : Hp), AWP _ _ _ _ A H → _) => hK; clear hK)); (repeat (rename (Fr → Hp → Prop) => K; clear K))) | skip)
    · refine ⟨(k + 1, comp q (invp t)), ⟨by dsimp only; omega, hq.comp (ht (by omega)).inv, by rw [he, hstep (by omega), hT]⟩, by dsimp only; omega, Sub.toL (by simp only [go_sem] <;> first | trivial | (simp only [Option.some.injEq, AV.v.injEq, AV.own.injEq, AV.list.injEq, Value.int.injEq, Value.bool.injEq, true_and, and_true]; first | omega | (simp; done)) | (simp; done) | (simp; omega)) (Hp.le_emp _)⟩
    · exact end_retV' rfl rfl (by rw [he, show n - k = 0 by omega]; rfl)

/-- The points of an orbit below m, in order. -/
def orb (T : Nat → Option (List Int)) (m : Nat) : List Int := ((List.range m).filter fun y => (T y).isSome).map fun y : Nat => (y : Int)
theorem orb_succ (T : Nat → Option (List Int)) (m : Nat) : orb T (m + 1) = orb T m ++ (if (T m).isSome then [(m : Int)] else []) := by
  unfold orb
  rw [List.range_succ, List.filter_append, List.map_append]
  congr 1
  cases h : (T m).isSome <;> simp [h]
theorem orb_length (T : Nat → Option (List Int)) (m : Nat) : (orb T m).length ≤ m := by
  unfold orb
  rw [List.length_map]
  exact Nat.le_trans (List.length_filter_le _ _) (by simp)
theorem orb_mem {T : Nat → Option (List Int)} {m : Nat} {x : Int} : x ∈ orb T m ↔ ∃ y : Nat, y < m ∧ (T y).isSome = true ∧ x = (y : Int) := by
  unfold orb
  simp only [List.mem_map, List.mem_filter, List.mem_range]
  constructor
  · rintro ⟨y, ⟨h1, h2⟩, rfl⟩; exact ⟨y, h1, h2, rfl⟩
  · rintro ⟨y, h1, h2, rfl⟩; exact ⟨y, ⟨h1, h2⟩, rfl⟩

theorem orbitOf_ok (n : Nat) (T : Nat → Option (List Int)) (hn : n ≤ 20) (hT : ∀ y t, y < n → T y = some t → 0 < t.length) (d : Nat) : AC Try.prog 175 [.list false 1 n (tF T)] Hp.emp (fun _ => false) (retI d (orb T n)) := by
  refine ac_of_awp (N := ⟨_, fun _ => false, fun _ _ => rfl⟩) Try.func175 rfl (by kernel_rfl) Try.ntmps175 (by simp) ?_
  simp only [argsFr, List.zipIdx_cons, List.zipIdx_nil, go_sem]
  repeat' (first | refine awp_seqK fun K hK => ?_ | (refine awp_regionK 17405 rfl ?_; simp only [List.map_cons, List.map_nil]; simp (maxSteps := 1000000) (dsimp := false) (implicitDefEqProofs := false) (disch := omega) only [wrap64, go_sem]) | (refine awp_regionQK 17405 (by kernel_rfl) (by kernel_rfl) (by kernel_rfl) ?_; simp only [List.map_cons, List.map_nil]; simp (maxSteps := 1000000) (dsimp := false) (implicitDefEqProofs := false) (disch := omega) only [wrap64, go_sem]) | refine awp_block ?_ | (refine awp_skip ?_; simp only [go_sem]) | (refine awp_exit ?_; simp only [go_sem]) | (refine awp_ret ?_; try simp only [go_sem]) | (refine awp_condP rfl ?_; try simp only [go_sem]) | (refine BrP.mk (fun h => ?_) (fun h => ?_) <;> try simp (dsimp := false) (disch := omega) only [wrap64]) | (refine Br.mk (fun h => ?_) (fun h => ?_) <;> try simp (dsimp := false) (disch := omega) only [wrap64]) | refine Ob.mk (by first | omega | (intro _ _; rfl) | trivial | (intros; trivial) | assumption | (intro i hi; have h0 : i = 0 := (by omega); subst h0; first | rfl | trivial) | (intro i hi; have h0 : i = 0 ∨ i = 1 := (by omega); rcases h0 with rfl | rfl <;> rfl) | (intro i hi; have h0 : i = 0 ∨ i = 1 ∨ i = 2 := (by omega); rcases h0 with rfl | rfl | rfl <;> rfl)) ?_ | apply_assumption -exfalso -symm)
  all_goals (first | (show endQ _ _ _ _ _ _ _; (repeat (rename (∀ (A : Fr) (H : Hp), AWP _ _ _ _ A H → _) => hK; clear hK)); (repeat (rename (Fr → Hp → Prop) => K; clear K))) | (show Exists _; (repeat (rename (∀ (A : Fr) (H : Hp), AWP _ _ _ _ A H → _) => hK; clear hK)); (repeat (rename (Fr → Hp → Prop) => K; clear K))) | skip)
  refine awp_loop (ι := Nat) (fun k => [(8, .v (.int .i64 (k))), (7, .v (.int .i64 (n))), (6, .list false 1 n (tF T)), (3, .own 30 0 1 (orb T k).length)]) (fun k => Hp.emp.upd 30 (.cells (orb T k).length (cM iv 0 (orb T k)))) (fun k => k ≤ n) (fun k => n - k) 0 ?_ (Sub.trans (Sub.nil (i := 3) 30 1 (cM iv 0 []) rfl rfl) (Sub.toL (by simp only [go_sem] <;> first | trivial | (simp only [Option.some.injEq, AV.v.injEq, AV.own.injEq, AV.list.injEq, Value.int.injEq, Value.bool.injEq, true_and, and_true]; first | omega | (simp [orb]; done)) | (simp [orb]; done) | (simp [orb]; omega)) (by (repeat' (first | exact Hp.le_emp _ | exact Hp.le_refl _ | refine Hp.le_upd ?_ ?_)); all_goals (first | rfl | (simp only [go_sem]; first | rfl | (refine cellsE ?_ ?_ <;> (simp [orb])) | (simp [orb])))))) ?_
  · exact Nat.zero_le _
  intro k hk
  have hol := orb_length T k
  have hos := orb_succ T k
  cases hTk : T k with
  | none =>
    have hTF : tF T k = .v (.slice none 0 0) := tF_none hTk
    rw [hTk] at hos
    simp only [Option.isSome_none, Bool.false_eq_true, if_false, List.append_nil] at hos
    repeat' (first | refine awp_seqK fun K hK => ?_ | (refine awp_regionK 17405 rfl ?_; simp only [List.map_cons, List.map_nil]; simp (maxSteps := 1000000) (dsimp := false) (implicitDefEqProofs := false) (disch := omega) only [wrap64, go_sem, hTF]) | (refine awp_regionQK 17405 (by kernel_rfl) (by kernel_rfl) (by kernel_rfl) ?_; simp only [List.map_cons, List.map_nil]; simp (maxSteps := 1000000) (dsimp := false) (implicitDefEqProofs := false) (disch := omega) only [wrap64, go_sem, hTF]) | refine awp_block ?_ | (refine awp_skip ?_; simp only [go_sem, hTF]) | (refine awp_exit ?_; simp only [go_sem, hTF]) | (refine awp_ret ?_; try simp only [go_sem, hTF]) | (refine awp_condP rfl ?_; try simp only [go_sem, hTF]) | (refine BrP.mk (fun h => ?_) (fun h => ?_) <;> try simp (dsimp := false) (disch := omega) only [wrap64]) | (refine Br.mk (fun h => ?_) (fun h => ?_) <;> try simp (dsimp := false) (disch := omega) only [wrap64]) | refine Ob.mk (by first | omega | (intro _ _; rfl) | trivial | (intros; trivial) | assumption | (intro i hi; have h0 : i = 0 := (by omega); subst h0; first | rfl | trivial) | (intro i hi; have h0 : i = 0 ∨ i = 1 := (by omega); rcases h0 with rfl | rfl <;> rfl) | (intro i hi; have h0 : i = 0 ∨ i = 1 ∨ i = 2 := (by omega); rcases h0 with rfl | rfl | rfl <;> rfl)) ?_ | apply_assumption -exfalso -symm)
    all_goals (first | (show endQ _ _ _ _ _ _ _; (repeat (rename (∀ (A : Fr) (H : Hp), AWP _ _ _ _ A H → _) => hK; clear hK)); (repeat (rename (Fr → Hp → Prop) => K; clear K))) | (show Exists _; (repeat (rename (∀ (A : Fr) (H : Hp), AWP _ _ _ _ A H → _) => hK; clear hK)); (repeat (rename (Fr → Hp → Prop) => K; clear K))) | skip)
    · refine ⟨k + 1, ?_, ?_, Sub.toL (by simp only [go_sem] <;> first | trivial | (simp only [Option.some.injEq, AV.v.injEq, AV.own.injEq, AV.list.injEq, Value.int.injEq, Value.bool.injEq, true_and, and_true]; first | omega | (simp [hos, List.length_append]; done)) | (simp [hos, List.length_append]; done) | (simp [hos, List.length_append]; omega)) (by (repeat' (first | exact Hp.le_emp _ | exact Hp.le_refl _ | refine Hp.le_upd ?_ ?_)); all_goals (first | rfl | (simp only [go_sem]; first | rfl | (refine cellsE ?_ ?_ <;> (first | omega | (rw [hos]; simp) | (rw [hos]))) | (first | omega | (rw [hos]; simp) | (rw [hos])))))⟩
      all_goals omega
    · have e : k = n := by omega
      subst e
      exact end_retI' rfl rfl rfl rfl rfl rfl
  | some t =>
    have hTF : tF T k = .list false 1 t.length (cM iv 0 t) := tF_some hTk
    rw [hTk] at hos
    simp only [Option.isSome_some, if_true] at hos
    have hnl := fun h : k < n => nil_no (n := t.length) rfl (hT k t h hTk)
    repeat' (first | refine awp_seqK fun K hK => ?_ | (refine awp_regionK 17405 rfl ?_; simp only [List.map_cons, List.map_nil]; simp (maxSteps := 1000000) (dsimp := false) (implicitDefEqProofs := false) (disch := omega) only [wrap64, go_sem, hTF, hnl]) | (refine awp_regionQK 17405 (by kernel_rfl) (by kernel_rfl) (by kernel_rfl) ?_; simp only [List.map_cons, List.map_nil]; simp (maxSteps := 1000000) (dsimp := false) (implicitDefEqProofs := false) (disch := omega) only [wrap64, go_sem, hTF, hnl]) | refine awp_block ?_ | (refine awp_skip ?_; simp only [go_sem, hTF, hnl]) | (refine awp_exit ?_; simp only [go_sem, hTF, hnl]) | (refine awp_ret ?_; try simp only [go_sem, hTF, hnl]) | (refine awp_condP rfl ?_; try simp only [go_sem, hTF, hnl]) | (refine BrP.mk (fun h => ?_) (fun h => ?_) <;> try simp (dsimp := false) (disch := omega) only [wrap64]) | (refine Br.mk (fun h => ?_) (fun h => ?_) <;> try simp (dsimp := false) (disch := omega) only [wrap64]) | refine Ob.mk (by first | omega | (intro _ _; rfl) | trivial | (intros; trivial) | assumption | (intro i hi; have h0 : i = 0 := (by omega); subst h0; first | rfl | trivial) | (intro i hi; have h0 : i = 0 ∨ i = 1 := (by omega); rcases h0 with rfl | rfl <;> rfl) | (intro i hi; have h0 : i = 0 ∨ i = 1 ∨ i = 2 := (by omega); rcases h0 with rfl | rfl | rfl <;> rfl)) ?_ | apply_assumption -exfalso -symm)
    all_goals (first | (show endQ _ _ _ _ _ _ _; (repeat (rename (∀ (A : Fr) (H : Hp), AWP _ _ _ _ A H → _) => hK; clear hK)); (repeat (rename (Fr → Hp → Prop) => K; clear K))) | (show Exists _; (repeat (rename (∀ (A : Fr) (H : Hp), AWP _ _ _ _ A H → _) => hK; clear hK)); (repeat (rename (Fr → Hp → Prop) => K; clear K))) | skip)
    · refine ⟨k + 1, ?_, ?_, Sub.toL (by simp only [go_sem] <;> first | trivial | (simp only [Option.some.injEq, AV.v.injEq, AV.own.injEq, AV.list.injEq, Value.int.injEq, Value.bool.injEq, true_and, and_true]; first | omega | (simp [hos, List.length_append]; done)) | (simp [hos, List.length_append]; done) | (simp [hos, List.length_append]; omega)) (by (repeat' (first | exact Hp.le_emp _ | exact Hp.le_refl _ | refine Hp.le_upd ?_ ?_)); all_goals (first | rfl | (simp only [go_sem]; first | rfl | (refine cellsE ?_ ?_ <;> (first | omega | (rw [hos]; simp) | (rw [hos]))) | (first | omega | (rw [hos]; simp) | (rw [hos])))))⟩
      all_goals omega
      all_goals omega
    · have e : k = n := by omega
      subst e
      exact end_retI' rfl rfl rfl rfl rfl rfl

end Go.Proofs.Ytngpacdhpblpbaa
end
