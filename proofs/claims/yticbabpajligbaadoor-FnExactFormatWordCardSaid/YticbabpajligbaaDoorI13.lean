import Derived.Test.YticbabpajligbaaDoorI3
import Derived.Test.YticbabpajligbaaDoorI12
import Derived.Lib.Join
import Derived.Lib.Strings
import Derived.Test.YticbabpajligbaaDoorI4
/- The texts of syntax trees; plain. -/
section
namespace Go.Nt
set_option linter.unusedVariables false
set_option linter.unusedSimpArgs false
/-- Texts joined, the first k. -/
def jnS (sep : ByteArray) (ws : List ByteArray) : Nat → ByteArray
  | 0 => ⟨#[]⟩
  | k + 1 => (if 0 < k then jnS sep ws k ++ sep else jnS sep ws k) ++ ws.getD k ByteArray.empty
def jn (ws : List ByteArray) : ByteArray := jnS ⟨#[32]⟩ ws ws.length
def sumS (ws : List ByteArray) : Nat := (ws.map fun w => w.size + 1).sum
theorem sumS_app (a b : List ByteArray) : sumS (a ++ b) = sumS a + sumS b := by simp [sumS]
theorem jnS_take {ws : List ByteArray} : ∀ k, k ≤ ws.length → (jnS ⟨#[32]⟩ ws k).size ≤ sumS (ws.take k)
  | 0, _ => Nat.zero_le _
  | k + 1, h => by
    have ih := jnS_take (ws := ws) k (by omega)
    have e : ws.take (k + 1) = ws.take k ++ [ws.getD k ByteArray.empty] := by
      rw [List.getD_eq_getElem?_getD, List.getElem?_eq_getElem (show k < ws.length by omega), ← List.take_append_getElem (show k < ws.length by omega)]; rfl
    have e1 : (⟨#[32]⟩ : ByteArray).size = 1 := rfl
    have e2 : sumS [ws.getD k ByteArray.empty] = (ws.getD k ByteArray.empty).size + 1 := by simp [sumS]
    rw [e, sumS_app, e2]
    unfold jnS
    rw [ByteArray.size_append]
    split
    · rw [ByteArray.size_append]; omega
    · omega
theorem jn_size (ws : List ByteArray) : (jn ws).size ≤ sumS ws := by
  have := jnS_take (ws := ws) ws.length (Nat.le_refl _)
  rwa [List.take_length] at this
section
variable {fm : Nat → ByteArray} {names : ByteArray} {xs : List Nd} {n : Nat}
end
end Go.Nt
end
/- Small numbers as texts, by both texts. -/
section
namespace Go.Proofs.YticbabpajligbaaDoor
open Go.Av
set_option linter.unusedSimpArgs false
set_option linter.unusedVariables false
attribute [local irreducible] AWP CallG Ob Br BrP Go.Av.Sub endQ AOps OpV AC thenA blkA opsVC opVC withA withArgs opsQ opQ CallQ withA2 withArgs2
/-- A row of texts. -/
@[go_sem] def strs (ws : List ByteArray) : AV := .list false 1 ws.length (cM sv ByteArray.empty ws)
@[go_sem] theorem cM_sv (ws : List ByteArray) (i : Nat) : cM sv ByteArray.empty ws i = .v (.string (ws.getD i ByteArray.empty)) := rfl
theorem wrapU8 {x : Int} (h : 0 ≤ x ∧ x < 256) : IntKind.u8.wrap x = x := by
  unfold IntKind.wrap
  rw [show (2 : Int) ^ IntKind.u8.bits = 256 from rfl, show IntKind.u8.signed = false from rfl]
  simp only [Bool.false_and, Bool.false_eq_true, if_false]
  omega
/-- One digit's text. -/
def dg1 (d : Nat) : ByteArray := strOf 1 (setF (zF [.int .u8 0]) 0 (.v (.int .u8 ((48 + d : Nat) : Int))))
theorem strOf1_size (f : Nat → AV) : (strOf 1 f).size = 1 := rfl
theorem isB1 {d : Nat} (h : d ≤ 9) (z : Nat → AV) : ∀ i, i < 1 → isByte (setF z 0 (.v (.int .u8 ((48 + d : Nat) : Int))) i) := fun i hi => by
  obtain rfl : i = 0 := by omega
  show isByte (.v (.int .u8 ((48 + d : Nat) : Int)))
  exact ⟨_, rfl⟩
/-- The last k digits. -/
def dgS (v : Nat) : Nat → ByteArray
  | 0 => ⟨#[]⟩
  | k + 1 => dg1 (v / 10 ^ k % 10) ++ dgS v k
theorem dgS_size (v : Nat) : ∀ k, (dgS v k).size = k
  | 0 => rfl
  | k + 1 => by
    have := dgS_size v k
    have h1 : (dg1 (v / 10 ^ k % 10)).size = 1 := rfl
    unfold dgS
    rw [ByteArray.size_append, this, h1]
    omega
def ndS (v : Nat) : Nat := if v < 10 then 1 else if v < 100 then 2 else 3
/-- The text of a small number. -/
def fmS (v : Nat) : ByteArray := dgS v (ndS v)
theorem fmS_size (v : Nat) : (fmS v).size ≤ 3 := by
  unfold fmS; rw [dgS_size]; unfold ndS; split <;> (try split) <;> omega
theorem formatInt_ok (v : Nat) (hv : v < 1000) : AC Tryd.prog 36 [.v (.int .i64 ((v : Nat)))] Hp.emp (fun _ => false) (retV (.v (.string (fmS v)))) := by
  have hn3 : ndS v ≤ 3 := by unfold ndS; split <;> (try split) <;> omega
  have hnd : (v < 10 ∧ ndS v = 1) ∨ (10 ≤ v ∧ v < 100 ∧ ndS v = 2) ∨ (100 ≤ v ∧ ndS v = 3) := by unfold ndS; split <;> (try split) <;> omega
  refine ac_of_awp (N := ⟨_, fun _ => false, fun _ _ => rfl, true⟩) Tryd.func36 rfl (by kernel_rfl) Tryd.ntmps36 (by simp) ?_
  simp only [argsFr, List.zipIdx_cons, List.zipIdx_nil, go_sem]
  repeat' (first | refine awp_seqK fun K hK => ?_ | (refine awp_regionK 537010237 rfl ?_; simp only [List.map_cons, List.map_nil]; simp (maxSteps := 1000000) (dsimp := false) (implicitDefEqProofs := false) (disch := omega) only [wrap64, go_sem]) | (refine awp_regionQK 537010237 (by kernel_rfl) (by kernel_rfl) (by kernel_rfl) ?_; simp only [List.map_cons, List.map_nil]; simp (maxSteps := 1000000) (dsimp := false) (implicitDefEqProofs := false) (disch := omega) only [wrap64, go_sem]) | refine awp_block ?_ | (refine awp_skip ?_; simp only [go_sem]) | (refine awp_exit ?_; simp only [go_sem]) | (refine awp_ret ?_; try simp only [go_sem]) | (refine awp_condP rfl ?_; try simp only [go_sem]) | (refine BrP.mk (fun h => ?_) (fun h => ?_) <;> try simp (dsimp := false) (disch := omega) only [wrap64]) | (refine Br.mk (fun h => ?_) (fun h => ?_) <;> try simp (dsimp := false) (disch := omega) only [wrap64]) | refine Ob.mk (by first | omega | (intro _ _; rfl) | trivial | (intros; trivial) | assumption | (intro i hi; have h0 : i = 0 := (by omega); subst h0; first | rfl | trivial) | (intro i hi; have h0 : i = 0 ∨ i = 1 := (by omega); rcases h0 with rfl | rfl <;> rfl) | (intro i hi; have h0 : i = 0 ∨ i = 1 ∨ i = 2 := (by omega); rcases h0 with rfl | rfl | rfl <;> rfl)) ?_ | apply_assumption -exfalso -symm)
  all_goals (first | (show endQ _ _ _ _ _ _ _; (repeat (rename (∀ (A : Fr) (H : Hp), AWP _ _ _ _ A H → _) => hK; clear hK)); (repeat (rename (Fr → Hp → Prop) => K; clear K))) | (show Exists _; (repeat (rename (∀ (A : Fr) (H : Hp), AWP _ _ _ _ A H → _) => hK; clear hK)); (repeat (rename (Fr → Hp → Prop) => K; clear K))) | skip)
  refine awp_loop (ι := Nat) (fun k => [(0, .v (.int .i64 ((v / 10 ^ k : Nat)))), (3, .v (.string (dgS v k))), (4, .v (.bool (false)))]) (fun _ => Hp.emp) (fun k => k ≤ ndS v) (fun k => ndS v - k) 0 (Nat.zero_le _) ?_ ?_
  · have hv0 : decide ((v : Int) < 0) = false := decide_eq_false (by omega)
    rw [hv0]
    exact Sub.toL (by simp only [go_sem] <;> first | trivial | (simp only [Option.some.injEq, AV.v.injEq, AV.own.injEq, AV.list.injEq, Value.int.injEq, Value.bool.injEq, true_and, and_true]; first | omega | (simp [dgS]; done)) | (simp [dgS]; done) | (simp [dgS]; omega)) (Hp.le_refl _)
  intro k hk
  have hsz := dgS_size v k
  obtain ⟨q, eq⟩ : ∃ q, q = v / 10 ^ k := ⟨_, rfl⟩
  have hq2 : q / 10 = v / 10 ^ (k + 1) := by rw [eq, Nat.div_div_eq_div_mul, Nat.pow_succ]
  have hst : dgS v (k + 1) = dg1 (q % 10) ++ dgS v k := by rw [eq]; rfl
  have hql : (k = 0 ∧ q = v) ∨ (k = 1 ∧ q = v / 10) ∨ (k = 2 ∧ q = v / 100) ∨ (k = 3 ∧ q = v / 1000) := by
    have : k = 0 ∨ k = 1 ∨ k = 2 ∨ k = 3 := by omega
    rcases this with rfl | rfl | rfl | rfl
    · exact .inl ⟨rfl, by rw [eq]; simp⟩
    · exact .inr (.inl ⟨rfl, by rw [eq]⟩)
    · exact .inr (.inr (.inl ⟨rfl, by rw [eq]⟩))
    · exact .inr (.inr (.inr ⟨rfl, by rw [eq]⟩))
  rw [← eq]
  have hemp : (dgS v k).toList = (⟨#[]⟩ : ByteArray).toList ↔ k = 0 := ⟨fun h => by
    have := congrArg List.length h
    rw [ByteArray.toList_eq, ByteArray.toList_eq, Array.length_toList, Array.length_toList] at this
    rw [← hsz]; exact this, fun h => by rw [h]; rfl⟩
  have hmod : ((q : Nat) : Int).tmod 10 = ((q % 10 : Nat) : Int) := rfl
  have hdiv : IntKind.i64.wrap (((q : Nat) : Int).tdiv 10) = ((q / 10 : Nat) : Int) := by
    rw [show ((q : Nat) : Int).tdiv 10 = ((q / 10 : Nat) : Int) from rfl, wrap64 (by omega)]
  have hlt : decide ((((q % 10 : Nat) : Nat) : Int) < 0) = false := decide_eq_false (by omega)
  have hw : IntKind.u8.wrap (48 + ((q % 10 : Nat) : Int)) = ((48 + q % 10 : Nat) : Int) := by
    rw [wrapU8 (by omega)]; omega
  repeat' (first | (refine Ob.mk (isB1 (d := q % 10) (by omega) _) ?_) | (refine Ob.mk (by rw [strOf1_size]; omega) ?_) | refine awp_seqK fun K hK => ?_ | (refine awp_regionK 537010237 rfl ?_; simp only [List.map_cons, List.map_nil]; simp (maxSteps := 1000000) (dsimp := false) (implicitDefEqProofs := false) (disch := omega) only [wrap64, go_sem, hmod, hdiv, hlt, hw, hsz]) | (refine awp_regionQK 537010237 (by kernel_rfl) (by kernel_rfl) (by kernel_rfl) ?_; simp only [List.map_cons, List.map_nil]; simp (maxSteps := 1000000) (dsimp := false) (implicitDefEqProofs := false) (disch := omega) only [wrap64, go_sem, hmod, hdiv, hlt, hw, hsz]) | refine awp_block ?_ | (refine awp_skip ?_; simp only [go_sem, hmod, hdiv, hlt, hw, hsz]) | (refine awp_exit ?_; simp only [go_sem, hmod, hdiv, hlt, hw, hsz]) | (refine awp_ret ?_; try simp only [go_sem, hmod, hdiv, hlt, hw, hsz]) | (refine awp_condP rfl ?_; try simp only [go_sem, hmod, hdiv, hlt, hw, hsz]) | (refine BrP.mk (fun h => ?_) (fun h => ?_) <;> try simp (dsimp := false) (disch := omega) only [wrap64]) | (refine Br.mk (fun h => ?_) (fun h => ?_) <;> try simp (dsimp := false) (disch := omega) only [wrap64]) | refine Ob.mk (by first | omega | (intro _ _; rfl) | trivial | (intros; trivial) | assumption | (intro i hi; have h0 : i = 0 := (by omega); subst h0; first | rfl | trivial) | (intro i hi; have h0 : i = 0 ∨ i = 1 := (by omega); rcases h0 with rfl | rfl <;> rfl) | (intro i hi; have h0 : i = 0 ∨ i = 1 ∨ i = 2 := (by omega); rcases h0 with rfl | rfl | rfl <;> rfl)) ?_ | apply_assumption -exfalso -symm)
  all_goals (first | (show endQ _ _ _ _ _ _ _; (repeat (rename (∀ (A : Fr) (H : Hp), AWP _ _ _ _ A H → _) => hK; clear hK)); (repeat (rename (Fr → Hp → Prop) => K; clear K))) | (show Exists _; (repeat (rename (∀ (A : Fr) (H : Hp), AWP _ _ _ _ A H → _) => hK; clear hK)); (repeat (rename (Fr → Hp → Prop) => K; clear K))) | skip)
  · have k0 := hemp.1 (by assumption)
    refine ⟨k + 1, by omega, by omega, ?_⟩
    rw [← hq2, hst]
    exact Sub.toL (by simp only [go_sem] <;> first | trivial | (simp only [Option.some.injEq, AV.v.injEq, AV.own.injEq, AV.list.injEq, Value.int.injEq, Value.bool.injEq, true_and, and_true]; first | omega | (simp [dg1]; done)) | (simp [dg1]; done) | (simp [dg1]; omega)) (Hp.le_emp _)
  · have k0 : ¬ k = 0 := fun h => absurd (hemp.2 h) (by assumption)
    have ek : k = ndS v := by omega
    exact end_retV' rfl rfl (by rw [ek]; rfl)
  · refine ⟨k + 1, by omega, by omega, ?_⟩
    rw [← hq2, hst]
    exact Sub.toL (by simp only [go_sem] <;> first | trivial | (simp only [Option.some.injEq, AV.v.injEq, AV.own.injEq, AV.list.injEq, Value.int.injEq, Value.bool.injEq, true_and, and_true]; first | omega | (simp [dg1]; done)) | (simp [dg1]; done) | (simp [dg1]; omega)) (Hp.le_emp _)
theorem all100 {p : Nat → Prop} [DecidablePred p] (h : ((List.range 100).all fun v => decide (p v)) = true) (v : Nat) (hv : v < 100) : p v := by
  have := List.all_eq_true.1 h v (List.mem_range.2 hv)
  exact of_decide_eq_true this
set_option maxRecDepth 100000 in
theorem small_ok (v : Nat) (hv : v < 100) : AC Tryd.prog 110 [.v (.int .i64 ((v : Nat)))] Hp.emp (fun _ => false) (retV (.v (.string (fmS v)))) := by
  refine ac_of_awp (N := ⟨_, fun _ => false, fun _ _ => rfl, true⟩) Tryd.func110 rfl (by kernel_rfl) Tryd.ntmps110 (by simp) ?_
  simp only [argsFr, List.zipIdx_cons, List.zipIdx_nil, go_sem]
  repeat' (first | (refine Ob.mk (by show _ ≤ ((36 : Nat) : Int); omega) ?_) | (refine Ob.mk (by show _ ≤ ((200 : Nat) : Int); omega) ?_) | refine awp_seqK fun K hK => ?_ | (refine awp_regionK 21 rfl ?_; simp only [List.map_cons, List.map_nil]; simp (maxSteps := 1000000) (dsimp := false) (implicitDefEqProofs := false) (disch := omega) only [wrap64, go_sem]) | (refine awp_regionQK 21 (by kernel_rfl) (by kernel_rfl) (by kernel_rfl) ?_; simp only [List.map_cons, List.map_nil]; simp (maxSteps := 1000000) (dsimp := false) (implicitDefEqProofs := false) (disch := omega) only [wrap64, go_sem]) | refine awp_block ?_ | (refine awp_skip ?_; simp only [go_sem]) | (refine awp_exit ?_; simp only [go_sem]) | (refine awp_ret ?_; try simp only [go_sem]) | (refine awp_condP rfl ?_; try simp only [go_sem]) | (refine BrP.mk (fun h => ?_) (fun h => ?_) <;> try simp (dsimp := false) (disch := omega) only [wrap64]) | (refine Br.mk (fun h => ?_) (fun h => ?_) <;> try simp (dsimp := false) (disch := omega) only [wrap64]) | refine Ob.mk (by first | omega | (intro _ _; rfl) | trivial | (intros; trivial) | assumption | (intro i hi; have h0 : i = 0 := (by omega); subst h0; first | rfl | trivial) | (intro i hi; have h0 : i = 0 ∨ i = 1 := (by omega); rcases h0 with rfl | rfl <;> rfl) | (intro i hi; have h0 : i = 0 ∨ i = 1 ∨ i = 2 := (by omega); rcases h0 with rfl | rfl | rfl <;> rfl)) ?_ | apply_assumption -exfalso -symm)
  all_goals (first | (show endQ _ _ _ _ _ _ _; (repeat (rename (∀ (A : Fr) (H : Hp), AWP _ _ _ _ A H → _) => hK; clear hK)); (repeat (rename (Fr → Hp → Prop) => K; clear K))) | (show Exists _; (repeat (rename (∀ (A : Fr) (H : Hp), AWP _ _ _ _ A H → _) => hK; clear hK)); (repeat (rename (Fr → Hp → Prop) => K; clear K))) | skip)
  all_goals refine end_retV' rfl rfl (congrArg (fun s => AV.v (.string s)) ?_)
  all_goals (revert v; exact all100 (by kernel_rfl))
theorem fmtIntern_ok (v : Nat) (hv : v < 100) : AC Tryd.prog 94 [.v (.int .i64 ((v : Nat))), .v (.int .i64 (10))] Hp.emp (fun _ => false) (retV (.v (.string (fmS v)))) := by
  refine ac_of_awp (N := ⟨_, fun _ => false, fun _ _ => rfl, true⟩) Tryd.func94 rfl (by kernel_rfl) Tryd.ntmps94 (by simp) ?_
  simp only [argsFr, List.zipIdx_cons, List.zipIdx_nil, go_sem]
  repeat' (first | refine awp_seqK fun K hK => ?_ | (refine awp_regionK 17188391667 rfl ?_; simp only [List.map_cons, List.map_nil]; simp (maxSteps := 1000000) (dsimp := false) (implicitDefEqProofs := false) (disch := omega) only [wrap64, go_sem]) | (refine awp_regionQK 17188391667 (by kernel_rfl) (by kernel_rfl) (by kernel_rfl) ?_; simp only [List.map_cons, List.map_nil]; simp (maxSteps := 1000000) (dsimp := false) (implicitDefEqProofs := false) (disch := omega) only [wrap64, go_sem]) | refine awp_block ?_ | (refine awp_skip ?_; simp only [go_sem]) | (refine awp_exit ?_; simp only [go_sem]) | (refine awp_ret ?_; try simp only [go_sem]) | (refine awp_condP rfl ?_; try simp only [go_sem]) | (refine BrP.mk (fun h => ?_) (fun h => ?_) <;> try simp (dsimp := false) (disch := omega) only [wrap64]) | (refine Br.mk (fun h => ?_) (fun h => ?_) <;> try simp (dsimp := false) (disch := omega) only [wrap64]) | refine Ob.mk (by first | omega | (intro _ _; rfl) | trivial | (intros; trivial) | assumption | (intro i hi; have h0 : i = 0 := (by omega); subst h0; first | rfl | trivial) | (intro i hi; have h0 : i = 0 ∨ i = 1 := (by omega); rcases h0 with rfl | rfl <;> rfl) | (intro i hi; have h0 : i = 0 ∨ i = 1 ∨ i = 2 := (by omega); rcases h0 with rfl | rfl | rfl <;> rfl)) ?_ | ((first | ((first | refine atF (f := 110) ?_ | refine atQ (f := 110) ?_); (first | (refine cV (hac := small_ok v hv) (hK := ?_)) | (refine cQV (hac := small_ok v hv) (hK := ?_))))); simp (maxSteps := 1000000) (dsimp := false) (implicitDefEqProofs := false) (disch := omega) only [wrap64, go_sem]) | apply_assumption -exfalso -symm)
  all_goals (first | (show endQ _ _ _ _ _ _ _; (repeat (rename (∀ (A : Fr) (H : Hp), AWP _ _ _ _ A H → _) => hK; clear hK)); (repeat (rename (Fr → Hp → Prop) => K; clear K))) | (show Exists _; (repeat (rename (∀ (A : Fr) (H : Hp), AWP _ _ _ _ A H → _) => hK; clear hK)); (repeat (rename (Fr → Hp → Prop) => K; clear K))) | skip)
  all_goals first | omega | exact end_retV rfl rfl
theorem fmtPub_ok (v : Nat) (hv : v < 100) : AC Tryd.prog 75 [.v (.int .i64 ((v : Nat))), .v (.int .i64 (10))] Hp.emp (fun _ => false) (retV (.v (.string (fmS v)))) := by
  refine ac_of_awp (N := ⟨_, fun _ => false, fun _ _ => rfl, true⟩) Tryd.func75 rfl (by kernel_rfl) Tryd.ntmps75 (by simp) ?_
  simp only [argsFr, List.zipIdx_cons, List.zipIdx_nil, go_sem]
  repeat' (first | refine awp_seqK fun K hK => ?_ | (refine awp_regionK 19 rfl ?_; simp only [List.map_cons, List.map_nil]; simp (maxSteps := 1000000) (dsimp := false) (implicitDefEqProofs := false) (disch := omega) only [wrap64, go_sem]) | (refine awp_regionQK 19 (by kernel_rfl) (by kernel_rfl) (by kernel_rfl) ?_; simp only [List.map_cons, List.map_nil]; simp (maxSteps := 1000000) (dsimp := false) (implicitDefEqProofs := false) (disch := omega) only [wrap64, go_sem]) | refine awp_block ?_ | (refine awp_skip ?_; simp only [go_sem]) | (refine awp_exit ?_; simp only [go_sem]) | (refine awp_ret ?_; try simp only [go_sem]) | (refine awp_condP rfl ?_; try simp only [go_sem]) | (refine BrP.mk (fun h => ?_) (fun h => ?_) <;> try simp (dsimp := false) (disch := omega) only [wrap64]) | (refine Br.mk (fun h => ?_) (fun h => ?_) <;> try simp (dsimp := false) (disch := omega) only [wrap64]) | refine Ob.mk (by first | omega | (intro _ _; rfl) | trivial | (intros; trivial) | assumption | (intro i hi; have h0 : i = 0 := (by omega); subst h0; first | rfl | trivial) | (intro i hi; have h0 : i = 0 ∨ i = 1 := (by omega); rcases h0 with rfl | rfl <;> rfl) | (intro i hi; have h0 : i = 0 ∨ i = 1 ∨ i = 2 := (by omega); rcases h0 with rfl | rfl | rfl <;> rfl)) ?_ | ((first | ((first | refine atF (f := 94) ?_ | refine atQ (f := 94) ?_); (first | (refine cV (hac := fmtIntern_ok v hv) (hK := ?_)) | (refine cQV (hac := fmtIntern_ok v hv) (hK := ?_))))); simp (maxSteps := 1000000) (dsimp := false) (implicitDefEqProofs := false) (disch := omega) only [wrap64, go_sem]) | apply_assumption -exfalso -symm)
  all_goals (first | (show endQ _ _ _ _ _ _ _; (repeat (rename (∀ (A : Fr) (H : Hp), AWP _ _ _ _ A H → _) => hK; clear hK)); (repeat (rename (Fr → Hp → Prop) => K; clear K))) | (show Exists _; (repeat (rename (∀ (A : Fr) (H : Hp), AWP _ _ _ _ A H → _) => hK; clear hK)); (repeat (rename (Fr → Hp → Prop) => K; clear K))) | skip)
  exact end_retV rfl rfl
theorem decimal_ok (v : Nat) (hv : v < 100) : AC Tryd.prog 42 [.v (.int .i64 ((v : Nat)))] Hp.emp (fun _ => false) (retV (.v (.string (fmS v)))) := by
  refine ac_of_awp (N := ⟨_, fun _ => false, fun _ _ => rfl, true⟩) Tryd.func42 rfl (by kernel_rfl) Tryd.ntmps42 (by simp) ?_
  simp only [argsFr, List.zipIdx_cons, List.zipIdx_nil, go_sem]
  repeat' (first | refine awp_seqK fun K hK => ?_ | (refine awp_regionK 5 rfl ?_; simp only [List.map_cons, List.map_nil]; simp (maxSteps := 1000000) (dsimp := false) (implicitDefEqProofs := false) (disch := omega) only [wrap64, go_sem]) | (refine awp_regionQK 5 (by kernel_rfl) (by kernel_rfl) (by kernel_rfl) ?_; simp only [List.map_cons, List.map_nil]; simp (maxSteps := 1000000) (dsimp := false) (implicitDefEqProofs := false) (disch := omega) only [wrap64, go_sem]) | refine awp_block ?_ | (refine awp_skip ?_; simp only [go_sem]) | (refine awp_exit ?_; simp only [go_sem]) | (refine awp_ret ?_; try simp only [go_sem]) | (refine awp_condP rfl ?_; try simp only [go_sem]) | (refine BrP.mk (fun h => ?_) (fun h => ?_) <;> try simp (dsimp := false) (disch := omega) only [wrap64]) | (refine Br.mk (fun h => ?_) (fun h => ?_) <;> try simp (dsimp := false) (disch := omega) only [wrap64]) | refine Ob.mk (by first | omega | (intro _ _; rfl) | trivial | (intros; trivial) | assumption | (intro i hi; have h0 : i = 0 := (by omega); subst h0; first | rfl | trivial) | (intro i hi; have h0 : i = 0 ∨ i = 1 := (by omega); rcases h0 with rfl | rfl <;> rfl) | (intro i hi; have h0 : i = 0 ∨ i = 1 ∨ i = 2 := (by omega); rcases h0 with rfl | rfl | rfl <;> rfl)) ?_ | ((first | ((first | refine atF (f := 75) ?_ | refine atQ (f := 75) ?_); (first | (refine cV (hac := fmtPub_ok v hv) (hK := ?_)) | (refine cQV (hac := fmtPub_ok v hv) (hK := ?_))))); simp (maxSteps := 1000000) (dsimp := false) (implicitDefEqProofs := false) (disch := omega) only [wrap64, go_sem]) | apply_assumption -exfalso -symm)
  all_goals (first | (show endQ _ _ _ _ _ _ _; (repeat (rename (∀ (A : Fr) (H : Hp), AWP _ _ _ _ A H → _) => hK; clear hK)); (repeat (rename (Fr → Hp → Prop) => K; clear K))) | (show Exists _; (repeat (rename (∀ (A : Fr) (H : Hp), AWP _ _ _ _ A H → _) => hK; clear hK)); (repeat (rename (Fr → Hp → Prop) => K; clear K))) | skip)
  exact end_retV rfl rfl
end Go.Proofs.YticbabpajligbaaDoor
end
/- Reading a notation: what both texts' parsers answer; plain. -/
section
namespace Go.Nt
set_option linter.unusedVariables false
set_option linter.unusedSimpArgs false
/-- What a parser answers: no more fuel, the offset of an error, or the place behind and the nodes. -/
inductive Pr (α : Type) where
  | out
  | bad (w : Nat)
  | ok (p : Nat) (l : List Nd) (a : α)
/-- The byte at a place, 0 behind the end. -/
def bt (s : ByteArray) (p : Nat) : Nat := if p < s.size then (s.data.toList.getD p 0).toNat else 0
/-- The first place of a byte. -/
def liF (names : ByteArray) (c : Nat) : Nat → Option Nat
  | 0 => none
  | k + 1 => match liF names c k with
    | some i => some i
    | none => if (names.data.toList.getD k 0).toNat = c then some k else none
def li (names : ByteArray) (c : Nat) : Option Nat := liF names c names.size
def dig (c : Nat) : Prop := 48 ≤ c ∧ c ≤ 57
instance (c : Nat) : Decidable (dig c) := by unfold dig; infer_instance
def pInv (s : ByteArray) (p : Nat) (l : List Nd) (x : Nd) (n : Int) : Pr Unit :=
  if bt s p = 39 then .ok (p + 1) (l ++ [{ x with count := n, inv := 1 }]) () else .ok p (l ++ [{ x with count := n }]) ()
def pSuf (s : ByteArray) (p : Nat) (l : List Nd) (x : Nd) : Pr Unit :=
  if ¬ dig (bt s p) then pInv s p l x 1
  else if bt s p = 48 then .bad p
  else if dig (bt s (p + 1)) then pInv s (p + 2) l x (10 * ((bt s p : Int) - 48) + ((bt s (p + 1) : Int) - 48))
  else if bt s p = 49 then .bad (p + 1)
  else pInv s (p + 1) l x ((bt s p : Int) - 48)
mutual
def pItem (names s : ByteArray) : Nat → Nat → List Nd → Pr Unit
  | 0, _, _ => .out
  | f + 1, p, l =>
    match li names (bt s p) with
    | some m => pSuf s (p + 1) l ⟨1, (m : Int), 0, 0, 0, []⟩
    | none =>
      if bt s p = 40 then
        match pSeq names s f (p + 1) l [] with
        | .out => .out
        | .bad w => .bad w
        | .ok q l' ks => if bt s q = 41 then pSuf s (q + 1) l' ⟨2, 0, 0, 0, 0, ks⟩ else .bad q
      else if bt s p = 91 then
        match pSeq names s f (p + 1) l [] with
        | .out => .out
        | .bad w => .bad w
        | .ok q l1 a =>
          if bt s q = 58 ∨ bt s q = 44 then
            match pSeq names s f (q + 1) l1 [] with
            | .out => .out
            | .bad w => .bad w
            | .ok r l2 b => if bt s r = 93 then pSuf s (r + 1) l2 ⟨if bt s q = 58 then 4 else 3, 0, 0, 0, (a.length : Int), a ++ b⟩ else .bad r
          else .bad q
      else .bad p
def pSeq (names s : ByteArray) : Nat → Nat → List Nd → List Int → Pr (List Int)
  | 0, _, _, _ => .out
  | f + 1, p, l, ks =>
    match pItem names s f p l with
    | .out => .out
    | .bad w => .bad w
    | .ok q l' _ => if bt s q = 32 then pSeq names s f (q + 1) l' (ks ++ [(l'.length : Int) - 1]) else .ok q l' (ks ++ [(l'.length : Int) - 1])
end
theorem liF_some {names : ByteArray} {c : Nat} : ∀ {k i : Nat}, liF names c k = some i → i < k ∧ (names.data.toList.getD i 0).toNat = c ∧ ∀ j, j < i → (names.data.toList.getD j 0).toNat ≠ c
  | 0, i, h => by cases h
  | k + 1, i, h => by
    unfold liF at h
    cases e : liF names c k with
    | some j => rw [e] at h; simp only [Option.some.injEq] at h; subst h; obtain ⟨a, b⟩ := liF_some e; exact ⟨by omega, b⟩
    | none =>
      rw [e] at h
      dsimp only at h
      split at h
      · rename_i hc
        simp only [Option.some.injEq] at h; subst h
        refine ⟨by omega, hc, fun j hj hjc => ?_⟩
        have : ∀ m, j < m → liF names c m ≠ none := fun m => by
          induction m with
          | zero => intro h; omega
          | succ m ih =>
            intro hm
            unfold liF
            by_cases hjm : j < m
            · cases e2 : liF names c m with
              | some x => simp
              | none => exact absurd e2 (ih hjm)
            · cases e2 : liF names c m with
              | some x => simp
              | none =>
                have : j = m := by omega
                subst this
                simp only [hjc, if_true]; simp
        exact this k hj e
      · cases h
theorem liF_none {names : ByteArray} {c : Nat} : ∀ {k : Nat}, liF names c k = none → ∀ j, j < k → (names.data.toList.getD j 0).toNat ≠ c
  | 0, h, j, hj => by omega
  | k + 1, h, j, hj => by
    unfold liF at h
    cases e : liF names c k with
    | some i => rw [e] at h; cases h
    | none =>
      rw [e] at h
      dsimp only at h
      split at h
      · cases h
      · rename_i hc
        by_cases hk : j = k
        · subst hk; exact hc
        · exact liF_none e j (by omega)
/-- What the parsers leave: the place is further on, at most a node a byte is laid. -/
structure Goes (s : ByteArray) (p : Nat) (l : List Nd) (q : Nat) (l' : List Nd) : Prop where
  lt : p < q
  le : q ≤ s.size
  pre : ∃ m, l' = l ++ m ∧ 1 ≤ m.length ∧ m.length ≤ q - p
theorem Goes.len {s : ByteArray} {p q : Nat} {l l' : List Nd} (h : Goes s p l q l') : l.length < l'.length ∧ l'.length + p ≤ l.length + q := by
  obtain ⟨m, rfl, h1, h2⟩ := h.pre
  have := h.lt
  rw [List.length_append]; omega
theorem Goes.trans {s : ByteArray} {p q r : Nat} {l l1 l2 : List Nd} (h : Goes s p l q l1) {q' : Nat} (hq : q ≤ q') (k : Goes s q' l1 r l2) : Goes s p l r l2 := by
  obtain ⟨m, rfl, h1, h2⟩ := h.pre
  obtain ⟨m2, rfl, k1, k2⟩ := k.pre
  have := h.lt
  have := k.lt
  exact ⟨by omega, k.le, m ++ m2, by rw [List.append_assoc], by rw [List.length_append]; omega, by rw [List.length_append]; omega⟩
end Go.Nt
end
/- The reference's parser of notations: its state, the bytes, the suffix. -/
section
namespace Go.Proofs.YticbabpajligbaaDoor
open Go.Av
set_option linter.unusedSimpArgs false
set_option linter.unusedVariables false
attribute [local irreducible] AWP CallG Ob Br BrP Go.Av.Sub endQ AOps OpV AC thenA blkA opsVC opVC withA withArgs opsQ opQ CallQ withA2 withArgs2
open Go.Nt (Nd nd0 kd li liF dig pInv pSuf pItem pSeq Pr Goes)
/-- The parser's state, its nodes lying in a row of our own. -/
abbrev ps (names s : ByteArray) (p : Nat) (l : List Nd) (w : Int) : AV := .agg 5 (vecF [.v (.string (names)), .v (.string (s)), .v (.int .i64 ((p : Nat))), .own 1000000 0 6 l.length, .v (.int .i64 (w))])
abbrev hN (l : List Nd) : Hp := Hp.emp.upd 1000000 (.cells (l.length * 6) (ndF l))
section
variable {P : Program} {N : Cx} {A A' : Fr} {H H' : Hp}
end
section
variable {P : Program} {N : Cx} {A A' : Fr} {H H' : Hp}
end
end Go.Proofs.YticbabpajligbaaDoor
end
/- Names of moves: places of letters, name strings, both texts. -/
section
namespace Go.Proofs.YticbabpajligbaaDoor
open Go.Av
set_option linter.unusedSimpArgs false
set_option linter.unusedVariables false
attribute [local irreducible] AWP CallG Ob Br BrP Go.Av.Sub endQ AOps OpV AC thenA blkA opsVC opVC withA withArgs opsQ opQ CallQ withA2 withArgs2
open Go.Nt (Nd nd0 kd li liF)
theorem liF_hit {names : ByteArray} {c i : Nat} (h1 : (names.data.toList.getD i 0).toNat = c) (h2 : ∀ j, j < i → (names.data.toList.getD j 0).toNat ≠ c) : ∀ k, i < k → liF names c k = some i
  | 0, h => by omega
  | k + 1, h => by
    unfold liF
    by_cases e : i < k
    · rw [liF_hit h1 h2 k e]
    · have e : i = k := by omega
      subst e
      cases e2 : liF names c i with
      | some j =>
        obtain ⟨a, b, _⟩ := Go.Nt.liF_some e2
        exact absurd b (h2 j a)
      | none => simp only [h1, if_true]
theorem li_miss {names : ByteArray} {c : Nat} : ∀ k, (∀ j, j < k → (names.data.toList.getD j 0).toNat ≠ c) → liF names c k = none
  | 0, _ => rfl
  | k + 1, h => by
    unfold liF
    rw [li_miss k (fun j hj => h j (by omega))]
    simp only [h k (by omega), if_false]
def liI (names : ByteArray) (c : Nat) : Int := match li names c with
  | some m => (m : Int)
  | none => -1
theorem liI_hit {names : ByteArray} {c i : Nat} (hi : i < names.size) (h1 : (names.data.toList.getD i 0).toNat = c) (h2 : ∀ j, j < i → (names.data.toList.getD j 0).toNat ≠ c) : liI names c = i := by
  unfold liI li; rw [liF_hit h1 h2 _ hi]
theorem liI_miss {names : ByteArray} {c : Nat} (h : ∀ j, j < names.size → (names.data.toList.getD j 0).toNat ≠ c) : liI names c = -1 := by
  unfold liI li; rw [li_miss _ h]
theorem letterIndex_ok (names : ByteArray) (c : Nat) (hs : names.size ≤ 1048576) : AC Tryd.prog 71 [.v (.string (names)), .v (.int .u8 (c : Nat))] Hp.emp (fun _ => false) (retV (.v (.int .i64 (liI names c)))) := by
  refine ac_of_awp (N := ⟨_, fun _ => false, fun _ _ => rfl, true⟩) Tryd.func71 rfl (by kernel_rfl) Tryd.ntmps71 (by simp) ?_
  simp only [argsFr, List.zipIdx_cons, List.zipIdx_nil, go_sem]
  repeat' (first | refine awp_seqK fun K hK => ?_ | (refine awp_regionK 66099 rfl ?_; simp only [List.map_cons, List.map_nil]; simp (maxSteps := 1000000) (dsimp := false) (implicitDefEqProofs := false) (disch := omega) only [wrap64, go_sem]) | (refine awp_regionQK 66099 (by kernel_rfl) (by kernel_rfl) (by kernel_rfl) ?_; simp only [List.map_cons, List.map_nil]; simp (maxSteps := 1000000) (dsimp := false) (implicitDefEqProofs := false) (disch := omega) only [wrap64, go_sem]) | refine awp_block ?_ | (refine awp_skip ?_; simp only [go_sem]) | (refine awp_exit ?_; simp only [go_sem]) | (refine awp_ret ?_; try simp only [go_sem]) | (refine awp_condP rfl ?_; try simp only [go_sem]) | (refine BrP.mk (fun h => ?_) (fun h => ?_) <;> try simp (dsimp := false) (disch := omega) only [wrap64]) | (refine Br.mk (fun h => ?_) (fun h => ?_) <;> try simp (dsimp := false) (disch := omega) only [wrap64]) | refine Ob.mk (by first | omega | (intro _ _; rfl) | trivial | (intros; trivial) | assumption | (intro i hi; have h0 : i = 0 := (by omega); subst h0; first | rfl | trivial) | (intro i hi; have h0 : i = 0 ∨ i = 1 := (by omega); rcases h0 with rfl | rfl <;> rfl) | (intro i hi; have h0 : i = 0 ∨ i = 1 ∨ i = 2 := (by omega); rcases h0 with rfl | rfl | rfl <;> rfl)) ?_ | apply_assumption -exfalso -symm)
  all_goals (first | (show endQ _ _ _ _ _ _ _; (repeat (rename (∀ (A : Fr) (H : Hp), AWP _ _ _ _ A H → _) => hK; clear hK)); (repeat (rename (Fr → Hp → Prop) => K; clear K))) | (show Exists _; (repeat (rename (∀ (A : Fr) (H : Hp), AWP _ _ _ _ A H → _) => hK; clear hK)); (repeat (rename (Fr → Hp → Prop) => K; clear K))) | skip)
  refine awp_loop (ι := Nat) (fun k => [(5, .v (.int .i64 (k))), (0, .v (.string (names))), (1, .v (.int .u8 (c : Nat)))]) (fun k => Hp.emp) (fun k => k ≤ names.size ∧ ∀ j, j < k → (names.data.toList.getD j 0).toNat ≠ c) (fun k => names.size - k) 0 ?_ (Sub.toL (by simp only [go_sem] <;> first | trivial | (simp only [Option.some.injEq, AV.v.injEq, AV.own.injEq, AV.list.injEq, Value.int.injEq, Value.bool.injEq, true_and, and_true]; first | omega | (simp; done)) | (simp; done) | (simp; omega)) (by (repeat' (first | exact Hp.le_emp _ | exact Hp.le_refl _ | refine Hp.le_upd ?_ ?_)); all_goals (first | rfl | (simp only [go_sem]; first | rfl | (refine cellsE ?_ ?_ <;> (simp)) | (simp))))) ?_
  · exact ⟨Nat.zero_le _, fun j h => absurd h (Nat.not_lt_zero _)⟩
  intro k hk
  repeat' (first | refine awp_seqK fun K hK => ?_ | (refine awp_regionK 66099 rfl ?_; simp only [List.map_cons, List.map_nil]; simp (maxSteps := 1000000) (dsimp := false) (implicitDefEqProofs := false) (disch := omega) only [wrap64, go_sem]) | (refine awp_regionQK 66099 (by kernel_rfl) (by kernel_rfl) (by kernel_rfl) ?_; simp only [List.map_cons, List.map_nil]; simp (maxSteps := 1000000) (dsimp := false) (implicitDefEqProofs := false) (disch := omega) only [wrap64, go_sem]) | refine awp_block ?_ | (refine awp_skip ?_; simp only [go_sem]) | (refine awp_exit ?_; simp only [go_sem]) | (refine awp_ret ?_; try simp only [go_sem]) | (refine awp_condP rfl ?_; try simp only [go_sem]) | (refine BrP.mk (fun h => ?_) (fun h => ?_) <;> try simp (dsimp := false) (disch := omega) only [wrap64]) | (refine Br.mk (fun h => ?_) (fun h => ?_) <;> try simp (dsimp := false) (disch := omega) only [wrap64]) | refine Ob.mk (by first | omega | (intro _ _; rfl) | trivial | (intros; trivial) | assumption | (intro i hi; have h0 : i = 0 := (by omega); subst h0; first | rfl | trivial) | (intro i hi; have h0 : i = 0 ∨ i = 1 := (by omega); rcases h0 with rfl | rfl <;> rfl) | (intro i hi; have h0 : i = 0 ∨ i = 1 ∨ i = 2 := (by omega); rcases h0 with rfl | rfl | rfl <;> rfl)) ?_ | apply_assumption -exfalso -symm)
  all_goals (first | (show endQ _ _ _ _ _ _ _; (repeat (rename (∀ (A : Fr) (H : Hp), AWP _ _ _ _ A H → _) => hK; clear hK)); (repeat (rename (Fr → Hp → Prop) => K; clear K))) | (show Exists _; (repeat (rename (∀ (A : Fr) (H : Hp), AWP _ _ _ _ A H → _) => hK; clear hK)); (repeat (rename (Fr → Hp → Prop) => K; clear K))) | skip)
  · exact end_retN rfl rfl (liI_hit (by omega) (by omega) hk.2).symm
  · refine ⟨k + 1, ?_, ?_, Sub.toL (by simp only [go_sem] <;> first | trivial | (simp only [Option.some.injEq, AV.v.injEq, AV.own.injEq, AV.list.injEq, Value.int.injEq, Value.bool.injEq, true_and, and_true]; first | omega | (simp; done)) | (simp; done) | (simp; omega)) (by (repeat' (first | exact Hp.le_emp _ | exact Hp.le_refl _ | refine Hp.le_upd ?_ ?_)); all_goals (first | rfl | (simp only [go_sem]; first | rfl | (refine cellsE ?_ ?_ <;> (simp)) | (simp))))⟩
    · refine ⟨by omega, fun j hj => ?_⟩
      by_cases h' : j = k
      · subst h'; omega
      · exact hk.2 j (by omega)
    · omega
  · have e : k = names.size := by omega
    subst e
    exact end_retN rfl rfl (liI_miss hk.2).symm
/-- A name string. -/
def nmP (s : ByteArray) : Prop := (1 ≤ s.size ∧ s.size ≤ 8) ∧ ∀ i, i < s.size → isName s i
instance (s : ByteArray) : Decidable (nmP s) := by unfold nmP; infer_instance
theorem ext_get {s : ByteArray} {i j : Nat} (hj : j < i) : (s.extract 0 i).data.toList.getD j 0 = s.data.toList.getD j 0 := by
  simp [List.getD_eq_getElem?_getD, hj]
theorem liI_ext {s : ByteArray} {i : Nat} (hi : i < s.size) : 0 ≤ liI (s.extract 0 i) (s.data.toList.getD i 0).toNat ↔ ¬ ∀ k, k < i → bt s k ≠ bt s i := by
  have hz : (s.extract 0 i).size = i := by simp; omega
  constructor
  · intro h hn
    rw [liI_miss (fun j hj e => ?_)] at h
    · omega
    · rw [hz] at hj
      rw [ext_get hj] at e
      exact hn j hj (by unfold bt; rw [e])
  · intro h
    have hex : ∃ k, k < i ∧ bt s k = bt s i := Classical.byContradiction fun hc => h fun k hk e => hc ⟨k, hk, e⟩
    unfold liI
    cases e : li (s.extract 0 i) (s.data.toList.getD i 0).toNat with
    | some m => simp only; omega
    | none =>
      obtain ⟨k, hk, e2⟩ := hex
      have := Go.Nt.liF_none e k (by rw [hz]; exact hk)
      rw [ext_get hk] at this
      unfold bt at e2
      exact absurd (by omega) this
theorem isNameString_ok (s : ByteArray) (hs : s.size ≤ 1048576) : AC Tryd.prog 33 [.v (.string (s))] Hp.emp (fun _ => false) (retV (.v (.bool (decide (nmP s))))) := by
  refine ac_of_awp (N := ⟨_, fun _ => false, fun _ _ => rfl, true⟩) Tryd.func33 rfl (by kernel_rfl) Tryd.ntmps33 (by simp) ?_
  simp only [argsFr, List.zipIdx_cons, List.zipIdx_nil, go_sem]
  repeat' (first | refine awp_seqK fun K hK => ?_ | (refine awp_regionK 8589936781 rfl ?_; simp only [List.map_cons, List.map_nil]; simp (maxSteps := 1000000) (dsimp := false) (implicitDefEqProofs := false) (disch := omega) only [wrap64, go_sem]) | (refine awp_regionQK 8589936781 (by kernel_rfl) (by kernel_rfl) (by kernel_rfl) ?_; simp only [List.map_cons, List.map_nil]; simp (maxSteps := 1000000) (dsimp := false) (implicitDefEqProofs := false) (disch := omega) only [wrap64, go_sem]) | refine awp_block ?_ | (refine awp_skip ?_; simp only [go_sem]) | (refine awp_exit ?_; simp only [go_sem]) | (refine awp_ret ?_; try simp only [go_sem]) | (refine awp_condP rfl ?_; try simp only [go_sem]) | (refine BrP.mk (fun h => ?_) (fun h => ?_) <;> try simp (dsimp := false) (disch := omega) only [wrap64]) | (refine Br.mk (fun h => ?_) (fun h => ?_) <;> try simp (dsimp := false) (disch := omega) only [wrap64]) | refine Ob.mk (by first | omega | (intro _ _; rfl) | trivial | (intros; trivial) | assumption | (intro i hi; have h0 : i = 0 := (by omega); subst h0; first | rfl | trivial) | (intro i hi; have h0 : i = 0 ∨ i = 1 := (by omega); rcases h0 with rfl | rfl <;> rfl) | (intro i hi; have h0 : i = 0 ∨ i = 1 ∨ i = 2 := (by omega); rcases h0 with rfl | rfl | rfl <;> rfl)) ?_ | ((first | ((first | refine atF (f := 56) ?_ | refine atQ (f := 56) ?_); (first | (refine cV (hac := inRange_ok _ _ _) (hK := ?_)) | (refine cQV (hac := inRange_ok _ _ _) (hK := ?_))))); simp (maxSteps := 1000000) (dsimp := false) (implicitDefEqProofs := false) (disch := omega) only [wrap64, go_sem]) | apply_assumption -exfalso -symm)
  all_goals (first | (show endQ _ _ _ _ _ _ _; (repeat (rename (∀ (A : Fr) (H : Hp), AWP _ _ _ _ A H → _) => hK; clear hK)); (repeat (rename (Fr → Hp → Prop) => K; clear K))) | (show Exists _; (repeat (rename (∀ (A : Fr) (H : Hp), AWP _ _ _ _ A H → _) => hK; clear hK)); (repeat (rename (Fr → Hp → Prop) => K; clear K))) | skip)
  · refine awp_loop (ι := Nat) (fun k => [(3, .v (.int .i64 (k))), (0, .v (.string (s)))]) (fun k => Hp.emp) (fun k => k ≤ s.size ∧ ∀ j, j < k → isName s j) (fun k => s.size - k) 0 ?_ (Sub.toL (by simp only [go_sem] <;> first | trivial | (simp only [Option.some.injEq, AV.v.injEq, AV.own.injEq, AV.list.injEq, Value.int.injEq, Value.bool.injEq, true_and, and_true]; first | omega | (simp; done)) | (simp; done) | (simp; omega)) (by (repeat' (first | exact Hp.le_emp _ | exact Hp.le_refl _ | refine Hp.le_upd ?_ ?_)); all_goals (first | rfl | (simp only [go_sem]; first | rfl | (refine cellsE ?_ ?_ <;> (simp)) | (simp))))) ?_
    · exact ⟨Nat.zero_le _, fun j h => absurd h (Nat.not_lt_zero _)⟩
    intro k hk
    have hx := fun h : k < s.size => liI_ext h
    have hx := Hold.mk hx
    have hz : (s.extract 0 k).size ≤ 1048576 := by simp; omega
    repeat' (first | refine awp_seqK fun K hK => ?_ | (refine awp_regionK 8589936781 rfl ?_; simp only [List.map_cons, List.map_nil]; simp (maxSteps := 1000000) (dsimp := false) (implicitDefEqProofs := false) (disch := omega) only [wrap64, go_sem]) | (refine awp_regionQK 8589936781 (by kernel_rfl) (by kernel_rfl) (by kernel_rfl) ?_; simp only [List.map_cons, List.map_nil]; simp (maxSteps := 1000000) (dsimp := false) (implicitDefEqProofs := false) (disch := omega) only [wrap64, go_sem]) | refine awp_block ?_ | (refine awp_skip ?_; simp only [go_sem]) | (refine awp_exit ?_; simp only [go_sem]) | (refine awp_ret ?_; try simp only [go_sem]) | (refine awp_condP rfl ?_; try simp only [go_sem]) | (refine BrP.mk (fun h => ?_) (fun h => ?_) <;> try simp (dsimp := false) (disch := omega) only [wrap64]) | (refine Br.mk (fun h => ?_) (fun h => ?_) <;> try simp (dsimp := false) (disch := omega) only [wrap64]) | refine Ob.mk (by first | omega | (intro _ _; rfl) | trivial | (intros; trivial) | assumption | (intro i hi; have h0 : i = 0 := (by omega); subst h0; first | rfl | trivial) | (intro i hi; have h0 : i = 0 ∨ i = 1 := (by omega); rcases h0 with rfl | rfl <;> rfl) | (intro i hi; have h0 : i = 0 ∨ i = 1 ∨ i = 2 := (by omega); rcases h0 with rfl | rfl | rfl <;> rfl)) ?_ | ((first | ((first | refine atF (f := 71) ?_ | refine atQ (f := 71) ?_); (first | (refine cV (hac := letterIndex_ok (s.extract 0 k) (s.data.toList.getD k 0).toNat hz) (hK := ?_)) | (refine cQV (hac := letterIndex_ok (s.extract 0 k) (s.data.toList.getD k 0).toNat hz) (hK := ?_))))); simp (maxSteps := 1000000) (dsimp := false) (implicitDefEqProofs := false) (disch := omega) only [wrap64, go_sem]) | apply_assumption -exfalso -symm)
    all_goals (first | (show endQ _ _ _ _ _ _ _; (repeat (rename (∀ (A : Fr) (H : Hp), AWP _ _ _ _ A H → _) => hK; clear hK)); (repeat (rename (Fr → Hp → Prop) => K; clear K))) | (show Exists _; (repeat (rename (∀ (A : Fr) (H : Hp), AWP _ _ _ _ A H → _) => hK; clear hK)); (repeat (rename (Fr → Hp → Prop) => K; clear K))) | skip)
    all_goals try omega
    · refine end_retB rfl rfl ?_
      simp only [Bool.false_eq_true, false_iff]
      intro hn
      have := (hn.2 k (by omega)).1
      unfold bt at this; omega
    · refine end_retB rfl rfl ?_
      simp only [Bool.false_eq_true, false_iff]
      intro hn
      have := (hn.2 k (by omega)).1
      unfold bt at this; omega
    · refine end_retB rfl rfl ?_
      simp only [Bool.false_eq_true, false_iff]
      intro hn
      exact (hx.h (by omega)).1 (by assumption) (hn.2 k (by omega)).2
    · refine ⟨k + 1, ?_, ?_, Sub.toL (by simp only [go_sem] <;> first | trivial | (simp only [Option.some.injEq, AV.v.injEq, AV.own.injEq, AV.list.injEq, Value.int.injEq, Value.bool.injEq, true_and, and_true]; first | omega | (simp; done)) | (simp; done) | (simp; omega)) (by (repeat' (first | exact Hp.le_emp _ | exact Hp.le_refl _ | refine Hp.le_upd ?_ ?_)); all_goals (first | rfl | (simp only [go_sem]; first | rfl | (refine cellsE ?_ ?_ <;> (simp)) | (simp))))⟩
      · refine ⟨by omega, fun j hj => ?_⟩
        by_cases h' : j = k
        · subst h'
          refine ⟨by unfold bt; omega, ?_⟩
          exact Classical.byContradiction fun hc => by
            have := (hx.h (by omega)).2 hc
            omega
        · exact hk.2 j (by omega)
      · omega
    · refine end_retB rfl rfl ?_
      simp only [true_iff]
      exact ⟨by omega, fun j hj => hk.2 j (by omega)⟩
  · refine end_retB rfl rfl ?_
    simp only [Bool.false_eq_true, false_iff, nmP]
    omega
end Go.Proofs.YticbabpajligbaaDoor
end
