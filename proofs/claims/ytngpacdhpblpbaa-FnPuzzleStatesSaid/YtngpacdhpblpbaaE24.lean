import Derived.Test.YtngpacdhpblpbaaE23
import Derived.Test.YtngpacdhpblpbaaE5
import Derived.Test.YtngpacdhpblpbaaE3
import Derived.Test.YtngpacdhpblpbaaE22
/- Texts of the reference: formatInt, joinText, formatInts. -/
section
namespace Go.Proofs.Ytngpacdhpblpbaa
open Go.Av
set_option linter.unusedSimpArgs false
set_option linter.unusedVariables false
attribute [local irreducible] AWP CallG Ob Br BrP Go.Av.Sub endQ AOps OpV AC thenA blkA opsVC opVC withA withArgs opsQ opQ CallQ withA2 withArgs2
/-- One digit's text. -/
def dg1 (d : Nat) : ByteArray := strOf 1 (setF (zF [.int .u8 0]) 0 (.v (.int .u8 ((48 + d : Nat) : Int))))
theorem strOf1_size (f : Nat → AV) : (strOf 1 f).size = 1 := rfl
theorem isB1 {d : Nat} (h : d ≤ 9) (z : Nat → AV) : ∀ i, i < 1 → isByte (setF z 0 (.v (.int .u8 ((48 + d : Nat) : Int))) i) := fun i hi => by
  obtain rfl : i = 0 := by omega
  show isByte (.v (.int .u8 ((48 + d : Nat) : Int)))
  exact ⟨_, rfl⟩
/-- The last k digits. -/
def dgS (v : Nat) : Nat → ByteArray
  | 0 => ⟨#[]⟩
  | k + 1 => dg1 (v / 10 ^ k % 10) ++ dgS v k
theorem dgS_size (v : Nat) : ∀ k, (dgS v k).size = k
  | 0 => rfl
  | k + 1 => by
    have := dgS_size v k
    have h1 : (dg1 (v / 10 ^ k % 10)).size = 1 := rfl
    unfold dgS
    rw [ByteArray.size_append, this, h1]
    omega
def ndS (v : Nat) : Nat := if v < 10 then 1 else if v < 100 then 2 else 3
/-- The text of a small number. -/
def fmS (v : Nat) : ByteArray := dgS v (ndS v)
theorem fmS_size (v : Nat) : (fmS v).size ≤ 3 := by
  unfold fmS; rw [dgS_size]; unfold ndS; split <;> (try split) <;> omega
theorem formatInt_ok (v : Nat) (hv : v < 1000) : AC Try.prog 219 [.v (.int .i64 ((v : Nat)))] Hp.emp (fun _ => false) (retV (.v (.string (fmS v)))) := by
  have hn3 : ndS v ≤ 3 := by unfold ndS; split <;> (try split) <;> omega
  have hnd : (v < 10 ∧ ndS v = 1) ∨ (10 ≤ v ∧ v < 100 ∧ ndS v = 2) ∨ (100 ≤ v ∧ ndS v = 3) := by unfold ndS; split <;> (try split) <;> omega
  refine ac_of_awp (N := ⟨_, fun _ => false, fun _ _ => rfl⟩) Try.func219 rfl (by kernel_rfl) Try.ntmps219 (by simp) ?_
  simp only [argsFr, List.zipIdx_cons, List.zipIdx_nil, go_sem]
  repeat' (first | refine awp_seqK fun K hK => ?_ | (refine awp_regionK 537010237 rfl ?_; simp only [List.map_cons, List.map_nil]; simp (maxSteps := 1000000) (dsimp := false) (implicitDefEqProofs := false) (disch := omega) only [wrap64, go_sem]) | (refine awp_regionQK 537010237 (by kernel_rfl) (by kernel_rfl) (by kernel_rfl) ?_; simp only [List.map_cons, List.map_nil]; simp (maxSteps := 1000000) (dsimp := false) (implicitDefEqProofs := false) (disch := omega) only [wrap64, go_sem]) | refine awp_block ?_ | (refine awp_skip ?_; simp only [go_sem]) | (refine awp_exit ?_; simp only [go_sem]) | (refine awp_ret ?_; try simp only [go_sem]) | (refine awp_condP rfl ?_; try simp only [go_sem]) | (refine BrP.mk (fun h => ?_) (fun h => ?_) <;> try simp (dsimp := false) (disch := omega) only [wrap64]) | (refine Br.mk (fun h => ?_) (fun h => ?_) <;> try simp (dsimp := false) (disch := omega) only [wrap64]) | refine Ob.mk (by first | omega | (intro _ _; rfl) | trivial | (intros; trivial) | assumption | (intro i hi; have h0 : i = 0 := (by omega); subst h0; first | rfl | trivial) | (intro i hi; have h0 : i = 0 ∨ i = 1 := (by omega); rcases h0 with rfl | rfl <;> rfl) | (intro i hi; have h0 : i = 0 ∨ i = 1 ∨ i = 2 := (by omega); rcases h0 with rfl | rfl | rfl <;> rfl)) ?_ | apply_assumption -exfalso -symm)
  all_goals (first | (show endQ _ _ _ _ _ _ _; (repeat (rename (∀ (A : Fr) (H : Hp), AWP _ _ _ _ A H → _) => hK; clear hK)); (repeat (rename (Fr → Hp → Prop) => K; clear K))) | (show Exists _; (repeat (rename (∀ (A : Fr) (H : Hp), AWP _ _ _ _ A H → _) => hK; clear hK)); (repeat (rename (Fr → Hp → Prop) => K; clear K))) | skip)
  refine awp_loop (ι := Nat) (fun k => [(0, .v (.int .i64 ((v / 10 ^ k : Nat)))), (3, .v (.string (dgS v k))), (4, .v (.bool (false)))]) (fun _ => Hp.emp) (fun k => k ≤ ndS v) (fun k => ndS v - k) 0 (Nat.zero_le _) ?_ ?_
  · have hv0 : decide ((v : Int) < 0) = false := decide_eq_false (by omega)
    rw [hv0]
    exact Sub.toL (by simp only [go_sem] <;> first | trivial | (simp only [Option.some.injEq, AV.v.injEq, AV.own.injEq, AV.list.injEq, Value.int.injEq, Value.bool.injEq, true_and, and_true]; first | omega | (simp [dgS]; done)) | (simp [dgS]; done) | (simp [dgS]; omega)) (Hp.le_refl _)
  intro k hk
  have hsz := dgS_size v k
  obtain ⟨q, eq⟩ : ∃ q, q = v / 10 ^ k := ⟨_, rfl⟩
  have hq2 : q / 10 = v / 10 ^ (k + 1) := by rw [eq, Nat.div_div_eq_div_mul, Nat.pow_succ]
  have hst : dgS v (k + 1) = dg1 (q % 10) ++ dgS v k := by rw [eq]; rfl
  have hql : (k = 0 ∧ q = v) ∨ (k = 1 ∧ q = v / 10) ∨ (k = 2 ∧ q = v / 100) ∨ (k = 3 ∧ q = v / 1000) := by
    have : k = 0 ∨ k = 1 ∨ k = 2 ∨ k = 3 := by omega
    rcases this with rfl | rfl | rfl | rfl
    · exact .inl ⟨rfl, by rw [eq]; simp⟩
    · exact .inr (.inl ⟨rfl, by rw [eq]⟩)
    · exact .inr (.inr (.inl ⟨rfl, by rw [eq]⟩))
    · exact .inr (.inr (.inr ⟨rfl, by rw [eq]⟩))
  rw [← eq]
  have hemp : (dgS v k).toList = (⟨#[]⟩ : ByteArray).toList ↔ k = 0 := ⟨fun h => by
    have := congrArg List.length h
    rw [ByteArray.toList_eq, ByteArray.toList_eq, Array.length_toList, Array.length_toList] at this
    rw [← hsz]; exact this, fun h => by rw [h]; rfl⟩
  have hmod : ((q : Nat) : Int).tmod 10 = ((q % 10 : Nat) : Int) := rfl
  have hdiv : IntKind.i64.wrap (((q : Nat) : Int).tdiv 10) = ((q / 10 : Nat) : Int) := by
    rw [show ((q : Nat) : Int).tdiv 10 = ((q / 10 : Nat) : Int) from rfl, wrap64 (by omega)]
  have hlt : decide ((((q % 10 : Nat) : Nat) : Int) < 0) = false := decide_eq_false (by omega)
  have hw : IntKind.u8.wrap (48 + ((q % 10 : Nat) : Int)) = ((48 + q % 10 : Nat) : Int) := by
    rw [wrapU8 (by omega)]; omega
  repeat' (first | (refine Ob.mk (isB1 (d := q % 10) (by omega) _) ?_) | (refine Ob.mk (by rw [strOf1_size]; omega) ?_) | refine awp_seqK fun K hK => ?_ | (refine awp_regionK 537010237 rfl ?_; simp only [List.map_cons, List.map_nil]; simp (maxSteps := 1000000) (dsimp := false) (implicitDefEqProofs := false) (disch := omega) only [wrap64, go_sem, hmod, hdiv, hlt, hw, hsz]) | (refine awp_regionQK 537010237 (by kernel_rfl) (by kernel_rfl) (by kernel_rfl) ?_; simp only [List.map_cons, List.map_nil]; simp (maxSteps := 1000000) (dsimp := false) (implicitDefEqProofs := false) (disch := omega) only [wrap64, go_sem, hmod, hdiv, hlt, hw, hsz]) | refine awp_block ?_ | (refine awp_skip ?_; simp only [go_sem, hmod, hdiv, hlt, hw, hsz]) | (refine awp_exit ?_; simp only [go_sem, hmod, hdiv, hlt, hw, hsz]) | (refine awp_ret ?_; try simp only [go_sem, hmod, hdiv, hlt, hw, hsz]) | (refine awp_condP rfl ?_; try simp only [go_sem, hmod, hdiv, hlt, hw, hsz]) | (refine BrP.mk (fun h => ?_) (fun h => ?_) <;> try simp (dsimp := false) (disch := omega) only [wrap64]) | (refine Br.mk (fun h => ?_) (fun h => ?_) <;> try simp (dsimp := false) (disch := omega) only [wrap64]) | refine Ob.mk (by first | omega | (intro _ _; rfl) | trivial | (intros; trivial) | assumption | (intro i hi; have h0 : i = 0 := (by omega); subst h0; first | rfl | trivial) | (intro i hi; have h0 : i = 0 ∨ i = 1 := (by omega); rcases h0 with rfl | rfl <;> rfl) | (intro i hi; have h0 : i = 0 ∨ i = 1 ∨ i = 2 := (by omega); rcases h0 with rfl | rfl | rfl <;> rfl)) ?_ | apply_assumption -exfalso -symm)
  all_goals (first | (show endQ _ _ _ _ _ _ _; (repeat (rename (∀ (A : Fr) (H : Hp), AWP _ _ _ _ A H → _) => hK; clear hK)); (repeat (rename (Fr → Hp → Prop) => K; clear K))) | (show Exists _; (repeat (rename (∀ (A : Fr) (H : Hp), AWP _ _ _ _ A H → _) => hK; clear hK)); (repeat (rename (Fr → Hp → Prop) => K; clear K))) | skip)
  · have k0 := hemp.1 (by assumption)
    refine ⟨k + 1, by omega, by omega, ?_⟩
    rw [← hq2, hst]
    exact Sub.toL (by simp only [go_sem] <;> first | trivial | (simp only [Option.some.injEq, AV.v.injEq, AV.own.injEq, AV.list.injEq, Value.int.injEq, Value.bool.injEq, true_and, and_true]; first | omega | (simp [dg1]; done)) | (simp [dg1]; done) | (simp [dg1]; omega)) (Hp.le_emp _)
  · have k0 : ¬ k = 0 := fun h => absurd (hemp.2 h) (by assumption)
    have ek : k = ndS v := by omega
    exact end_retV' rfl rfl (by rw [ek]; rfl)
  · refine ⟨k + 1, by omega, by omega, ?_⟩
    rw [← hq2, hst]
    exact Sub.toL (by simp only [go_sem] <;> first | trivial | (simp only [Option.some.injEq, AV.v.injEq, AV.own.injEq, AV.list.injEq, Value.int.injEq, Value.bool.injEq, true_and, and_true]; first | omega | (simp [dg1]; done)) | (simp [dg1]; done) | (simp [dg1]; omega)) (Hp.le_emp _)
/-- Texts joined, the first k. -/
def jnS (sep : ByteArray) (ws : List ByteArray) : Nat → ByteArray
  | 0 => ⟨#[]⟩
  | k + 1 => (if 0 < k then jnS sep ws k ++ sep else jnS sep ws k) ++ ws.getD k ByteArray.empty
theorem jnS_size (sep : ByteArray) (ws : List ByteArray) (m : Nat) (h : ∀ j, (ws.getD j ByteArray.empty).size ≤ m) : ∀ k, (jnS sep ws k).size ≤ k * (m + sep.size)
  | 0 => Nat.zero_le _
  | k + 1 => by
    have h1 := jnS_size sep ws m h k
    have h2 := h k
    unfold jnS
    rw [Nat.add_mul, Nat.one_mul, ByteArray.size_append]
    split
    · rw [ByteArray.size_append]; omega
    · omega
theorem joinText_ok (ws : List ByteArray) (sep : ByteArray) (hl : ws.length ≤ 1000) (hw : ∀ j, (ws.getD j ByteArray.empty).size ≤ 1000) (hs : sep.size ≤ 1000) : AC Try.prog 220 [strs ws, .v (.string (sep))] Hp.emp (fun _ => false) (retV (.v (.string (jnS sep ws ws.length)))) := by
  have hw := Hold.mk hw
  refine ac_of_awp (N := ⟨_, fun _ => false, fun _ _ => rfl⟩) Try.func220 rfl (by kernel_rfl) Try.ntmps220 (by simp) ?_
  simp only [argsFr, List.zipIdx_cons, List.zipIdx_nil, go_sem]
  repeat' (first | refine awp_seqK fun K hK => ?_ | (refine awp_regionK 17523 rfl ?_; simp only [List.map_cons, List.map_nil]; simp (maxSteps := 1000000) (dsimp := false) (implicitDefEqProofs := false) (disch := omega) only [wrap64, go_sem]) | (refine awp_regionQK 17523 (by kernel_rfl) (by kernel_rfl) (by kernel_rfl) ?_; simp only [List.map_cons, List.map_nil]; simp (maxSteps := 1000000) (dsimp := false) (implicitDefEqProofs := false) (disch := omega) only [wrap64, go_sem]) | refine awp_block ?_ | (refine awp_skip ?_; simp only [go_sem]) | (refine awp_exit ?_; simp only [go_sem]) | (refine awp_ret ?_; try simp only [go_sem]) | (refine awp_condP rfl ?_; try simp only [go_sem]) | (refine BrP.mk (fun h => ?_) (fun h => ?_) <;> try simp (dsimp := false) (disch := omega) only [wrap64]) | (refine Br.mk (fun h => ?_) (fun h => ?_) <;> try simp (dsimp := false) (disch := omega) only [wrap64]) | refine Ob.mk (by first | omega | (intro _ _; rfl) | trivial | (intros; trivial) | assumption | (intro i hi; have h0 : i = 0 := (by omega); subst h0; first | rfl | trivial) | (intro i hi; have h0 : i = 0 ∨ i = 1 := (by omega); rcases h0 with rfl | rfl <;> rfl) | (intro i hi; have h0 : i = 0 ∨ i = 1 ∨ i = 2 := (by omega); rcases h0 with rfl | rfl | rfl <;> rfl)) ?_ | apply_assumption -exfalso -symm)
  all_goals (first | (show endQ _ _ _ _ _ _ _; (repeat (rename (∀ (A : Fr) (H : Hp), AWP _ _ _ _ A H → _) => hK; clear hK)); (repeat (rename (Fr → Hp → Prop) => K; clear K))) | (show Exists _; (repeat (rename (∀ (A : Fr) (H : Hp), AWP _ _ _ _ A H → _) => hK; clear hK)); (repeat (rename (Fr → Hp → Prop) => K; clear K))) | skip)
  refine awp_loop (ι := Nat) (fun k => [(6, .v (.int .i64 ((k : Nat)))), (5, .v (.string (jnS sep ws k))), (0, strs ws), (1, .v (.string (sep)))]) (fun k => Hp.emp) (fun k => k ≤ ws.length) (fun k => ws.length - k) 0 ?_ (Sub.toL (by simp only [go_sem] <;> first | trivial | (simp only [Option.some.injEq, AV.v.injEq, AV.own.injEq, AV.list.injEq, Value.int.injEq, Value.bool.injEq, true_and, and_true]; first | omega | (simp [jnS]; done)) | (simp [jnS]; done) | (simp [jnS]; omega)) (by (repeat' (first | exact Hp.le_emp _ | exact Hp.le_refl _ | refine Hp.le_upd ?_ ?_)); all_goals (first | rfl | (simp only [go_sem]; first | rfl | (refine cellsE ?_ ?_ <;> (simp [jnS])) | (simp [jnS]))))) ?_
  · exact Nat.zero_le _
  intro k hk
  have h1 := jnS_size sep ws 1000 hw.h k
  have h2 := hw.h k
  have h3 : k * (1000 + sep.size) ≤ 1000 * 2000 := Nat.mul_le_mul (by omega) (by omega)
  have hst : jnS sep ws (k + 1) = (if 0 < k then jnS sep ws k ++ sep else jnS sep ws k) ++ ws.getD k ByteArray.empty := rfl
  have hsz := ByteArray.size_append (a := jnS sep ws k) (b := sep)
  repeat' (first | refine awp_seqK fun K hK => ?_ | (refine awp_regionK 17523 rfl ?_; simp only [List.map_cons, List.map_nil]; simp (maxSteps := 1000000) (dsimp := false) (implicitDefEqProofs := false) (disch := omega) only [wrap64, go_sem, hsz]) | (refine awp_regionQK 17523 (by kernel_rfl) (by kernel_rfl) (by kernel_rfl) ?_; simp only [List.map_cons, List.map_nil]; simp (maxSteps := 1000000) (dsimp := false) (implicitDefEqProofs := false) (disch := omega) only [wrap64, go_sem, hsz]) | refine awp_block ?_ | (refine awp_skip ?_; simp only [go_sem, hsz]) | (refine awp_exit ?_; simp only [go_sem, hsz]) | (refine awp_ret ?_; try simp only [go_sem, hsz]) | (refine awp_condP rfl ?_; try simp only [go_sem, hsz]) | (refine BrP.mk (fun h => ?_) (fun h => ?_) <;> try simp (dsimp := false) (disch := omega) only [wrap64]) | (refine Br.mk (fun h => ?_) (fun h => ?_) <;> try simp (dsimp := false) (disch := omega) only [wrap64]) | refine Ob.mk (by first | omega | (intro _ _; rfl) | trivial | (intros; trivial) | assumption | (intro i hi; have h0 : i = 0 := (by omega); subst h0; first | rfl | trivial) | (intro i hi; have h0 : i = 0 ∨ i = 1 := (by omega); rcases h0 with rfl | rfl <;> rfl) | (intro i hi; have h0 : i = 0 ∨ i = 1 ∨ i = 2 := (by omega); rcases h0 with rfl | rfl | rfl <;> rfl)) ?_ | apply_assumption -exfalso -symm)
  all_goals (first | (show endQ _ _ _ _ _ _ _; (repeat (rename (∀ (A : Fr) (H : Hp), AWP _ _ _ _ A H → _) => hK; clear hK)); (repeat (rename (Fr → Hp → Prop) => K; clear K))) | (show Exists _; (repeat (rename (∀ (A : Fr) (H : Hp), AWP _ _ _ _ A H → _) => hK; clear hK)); (repeat (rename (Fr → Hp → Prop) => K; clear K))) | skip)
  · refine ⟨k + 1, by omega, by omega, ?_⟩
    rw [hst, if_pos (by omega)]
    exact Sub.toL (by simp only [go_sem] <;> first | trivial | (simp only [Option.some.injEq, AV.v.injEq, AV.own.injEq, AV.list.injEq, Value.int.injEq, Value.bool.injEq, true_and, and_true]; first | omega | (simp; done)) | (simp; done) | (simp; omega)) (Hp.le_refl _)
  · refine ⟨k + 1, by omega, by omega, ?_⟩
    rw [hst, if_neg (by omega)]
    exact Sub.toL (by simp only [go_sem] <;> first | trivial | (simp only [Option.some.injEq, AV.v.injEq, AV.own.injEq, AV.list.injEq, Value.int.injEq, Value.bool.injEq, true_and, and_true]; first | omega | (simp; done)) | (simp; done) | (simp; omega)) (Hp.le_refl _)
  · have ek : k = ws.length := by omega
    exact end_retV' rfl rfl (by rw [ek])
/-- A row of small numbers, as text. -/
def fisS (xs : List Int) (k : Nat) : List ByteArray := (xs.take k).map fun x => fmS x.toNat
theorem fisS_len (xs : List Int) {k : Nat} (h : k ≤ xs.length) : (fisS xs k).length = k := by unfold fisS; rw [List.length_map, List.length_take]; omega
theorem fisS_succ (xs : List Int) {k : Nat} (h : k < xs.length) : fisS xs (k + 1) = fisS xs k ++ [fmS (xs.getD k 0).toNat] := by
  unfold fisS
  rw [List.take_add_one, List.map_append, List.getD_eq_getElem?_getD, List.getElem?_eq_getElem h]
  rfl
theorem fisS_row (xs : List Int) (k j : Nat) : ((fisS xs k).getD j ByteArray.empty).size ≤ 1000 := by
  by_cases hj : j < (fisS xs k).length
  · have hm : (fisS xs k).getD j ByteArray.empty ∈ fisS xs k := by rw [List.getD_eq_getElem?_getD, List.getElem?_eq_getElem hj]; exact List.getElem_mem hj
    obtain ⟨x, _, e⟩ := List.mem_map.1 hm
    rw [← e]
    have := fmS_size x.toNat
    omega
  · rw [List.getD_eq_getElem?_getD, List.getElem?_eq_none (by omega)]; exact Nat.zero_le _
def fisP (xs : List Int) : ByteArray := jnS ⟨#[32]⟩ (fisS xs xs.length) xs.length
theorem formatInts_ok (xs : List Int) (hl : xs.length ≤ 1000) (hx : ∀ j, j < xs.length → 0 ≤ xs.getD j 0 ∧ xs.getD j 0 < 1000) : AC Try.prog 218 [ints xs] Hp.emp (fun _ => false) (retV (.v (.string (fisP xs)))) := by
  refine ac_of_awp (N := ⟨_, fun _ => false, fun _ _ => rfl⟩) Try.func218 rfl (by kernel_rfl) Try.ntmps218 (by simp) ?_
  simp only [argsFr, List.zipIdx_cons, List.zipIdx_nil, go_sem]
  repeat' (first | refine awp_seqK fun K hK => ?_ | (refine awp_regionK 541 rfl ?_; simp only [List.map_cons, List.map_nil]; simp (maxSteps := 1000000) (dsimp := false) (implicitDefEqProofs := false) (disch := omega) only [wrap64, go_sem]) | (refine awp_regionQK 541 (by kernel_rfl) (by kernel_rfl) (by kernel_rfl) ?_; simp only [List.map_cons, List.map_nil]; simp (maxSteps := 1000000) (dsimp := false) (implicitDefEqProofs := false) (disch := omega) only [wrap64, go_sem]) | refine awp_block ?_ | (refine awp_skip ?_; simp only [go_sem]) | (refine awp_exit ?_; simp only [go_sem]) | (refine awp_ret ?_; try simp only [go_sem]) | (refine awp_condP rfl ?_; try simp only [go_sem]) | (refine BrP.mk (fun h => ?_) (fun h => ?_) <;> try simp (dsimp := false) (disch := omega) only [wrap64]) | (refine Br.mk (fun h => ?_) (fun h => ?_) <;> try simp (dsimp := false) (disch := omega) only [wrap64]) | refine Ob.mk (by first | omega | (intro _ _; rfl) | trivial | (intros; trivial) | assumption | (intro i hi; have h0 : i = 0 := (by omega); subst h0; first | rfl | trivial) | (intro i hi; have h0 : i = 0 ∨ i = 1 := (by omega); rcases h0 with rfl | rfl <;> rfl) | (intro i hi; have h0 : i = 0 ∨ i = 1 ∨ i = 2 := (by omega); rcases h0 with rfl | rfl | rfl <;> rfl)) ?_ | apply_assumption -exfalso -symm)
  all_goals (first | (show endQ _ _ _ _ _ _ _; (repeat (rename (∀ (A : Fr) (H : Hp), AWP _ _ _ _ A H → _) => hK; clear hK)); (repeat (rename (Fr → Hp → Prop) => K; clear K))) | (show Exists _; (repeat (rename (∀ (A : Fr) (H : Hp), AWP _ _ _ _ A H → _) => hK; clear hK)); (repeat (rename (Fr → Hp → Prop) => K; clear K))) | skip)
  refine awp_loop (ι := Nat) (fun k => [(4, .v (.int .i64 ((k : Nat)))), (3, .own 5 0 1 k), (0, .list false 1 (xs).length (cM iv 0 (xs)))]) (fun k => Hp.emp.upd 5 (.cells k (cM sv ByteArray.empty (fisS xs k)))) (fun k => k ≤ xs.length) (fun k => xs.length - k) 0 (Nat.zero_le _) ?_ ?_
  · exact Sub.toFF (fun _ => False) (Fr.fit_cons rfl (.refl _) (Fr.fit_cons rfl (.refl _) (Fr.fit_cons rfl (.refl _) (Fr.fit_nil _)))) (leF_upd rfl (bfE rfl (fun i hi => absurd hi (Nat.not_lt_zero _))) leF_emp id)
  intro k hk
  have hml := fisS_len xs hk
  have hxk := hx k
  have hf := fun h : k < xs.length => formatInt_ok (xs.getD k 0).toNat (by have := hxk h; omega)
  have hf : k < xs.length → AC Try.prog 219 [.v (.int .i64 (xs.getD k 0))] Hp.emp (fun _ => false) (retV (.v (.string (fmS (xs.getD k 0).toNat)))) := fun h => by
    have h1 := hf h
    rwa [show (((xs.getD k 0).toNat : Nat) : Int) = xs.getD k 0 by have := hxk h; omega] at h1
  have hf := Hold.mk hf
  have hjn := Hold.mk (fun h : k = xs.length => joinText_ok (fisS xs k) ⟨#[32]⟩ (by omega) (fisS_row xs k) (by decide))
  repeat' (first | refine awp_seqK fun K hK => ?_ | (refine awp_regionK 541 rfl ?_; simp only [List.map_cons, List.map_nil]; simp (maxSteps := 1000000) (dsimp := false) (implicitDefEqProofs := false) (disch := omega) only [wrap64, go_sem]) | (refine awp_regionQK 541 (by kernel_rfl) (by kernel_rfl) (by kernel_rfl) ?_; simp only [List.map_cons, List.map_nil]; simp (maxSteps := 1000000) (dsimp := false) (implicitDefEqProofs := false) (disch := omega) only [wrap64, go_sem]) | refine awp_block ?_ | (refine awp_skip ?_; simp only [go_sem]) | (refine awp_exit ?_; simp only [go_sem]) | (refine awp_ret ?_; try simp only [go_sem]) | (refine awp_condP rfl ?_; try simp only [go_sem]) | (refine BrP.mk (fun h => ?_) (fun h => ?_) <;> try simp (dsimp := false) (disch := omega) only [wrap64]) | (refine Br.mk (fun h => ?_) (fun h => ?_) <;> try simp (dsimp := false) (disch := omega) only [wrap64]) | refine Ob.mk (by first | omega | (intro _ _; rfl) | trivial | (intros; trivial) | assumption | (intro i hi; have h0 : i = 0 := (by omega); subst h0; first | rfl | trivial) | (intro i hi; have h0 : i = 0 ∨ i = 1 := (by omega); rcases h0 with rfl | rfl <;> rfl) | (intro i hi; have h0 : i = 0 ∨ i = 1 ∨ i = 2 := (by omega); rcases h0 with rfl | rfl | rfl <;> rfl)) ?_ | ((first | (refine cV (hac := hf.h (by omega)) (hK := ?_)) | (refine cQV (hac := hf.h (by omega)) (hK := ?_)) | ((first | refine atF (f := 220) ?_ | refine atQ (f := 220) ?_); (refine cV (hfit := .cons (fits_S rfl trivial hml.symm) (.cons (.refl _) .nil)) (hac := hjn.h (by omega)) (hK := ?_)))); simp (maxSteps := 1000000) (dsimp := false) (implicitDefEqProofs := false) (disch := omega) only [wrap64, go_sem]) | apply_assumption -exfalso -symm)
  all_goals (first | (show endQ _ _ _ _ _ _ _; (repeat (rename (∀ (A : Fr) (H : Hp), AWP _ _ _ _ A H → _) => hK; clear hK)); (repeat (rename (Fr → Hp → Prop) => K; clear K))) | (show Exists _; (repeat (rename (∀ (A : Fr) (H : Hp), AWP _ _ _ _ A H → _) => hK; clear hK)); (repeat (rename (Fr → Hp → Prop) => K; clear K))) | skip)
  · refine ⟨k + 1, by omega, by omega, ?_⟩
    refine Sub.toFF (fun _ => False) (Fr.fit_cons rfl (.refl _) (Fr.fit_cons rfl (.refl _) (Fr.fit_cons rfl (.refl _) (Fr.fit_nil _)))) (leF_upd rfl (bfE rfl (fun i hi => ?_)) leF_emp id)
    rw [fisS_succ xs (by omega)]
    have := ap_S (fisS xs k) (fmS (xs.getD k 0).toNat) (zF [Value.string { data := #[] }]) i (by omega)
    rw [hml] at this
    exact this
  · have ek : k = xs.length := by omega
    exact end_retV' rfl rfl (by rw [hml, ek]; rfl)
end Go.Proofs.Ytngpacdhpblpbaa
end
/- Cycles and orders of permutations, both texts. -/
section
namespace Go.Proofs.Ytngpacdhpblpbaa
open Go.Av
set_option linter.unusedSimpArgs false
set_option linter.unusedVariables false
attribute [local irreducible] AWP CallG Ob Br BrP Go.Av.Sub endQ AOps OpV AC thenA blkA opsVC opVC withA withArgs opsQ opQ CallQ withA2 withArgs2
open Go.Pm (Pm comp invp idn img itr clen cyc isMn cycs lcmL ord)
theorem specCycleOf_ok (n : Nat) (p : List Int) (i : Nat) (hp : Pm n p) (hn : n ≤ 20) (hi : i < n) (d : Nat) : AC Try.prog 186 [ints p, .v (.int .i64 ((i : Nat)))] Hp.emp (fun _ => false) (retI d (cyc p i)) := by
  have hl := hp.1
  obtain ⟨hc1, hc2, hc3⟩ := Go.Pm.clen_ok hp hi
  have hc0 := Go.Pm.clen_pos p i
  have hg : ∀ k, p.getD (itr p i k) 0 = ((itr p i (k + 1) : Nat) : Int) := fun k => hp.get_eq (Go.Pm.itr_lt hp hi k)
  have hg0 : p.getD i 0 = ((itr p i 1 : Nat) : Int) := hg 0
  have hb : ∀ k, itr p i k < n := fun k => Go.Pm.itr_lt hp hi k
  have hcl := Go.Pm.cyc_length p i
  have h1 : (cyc p i).take 1 = [(i : Int)] := by
    rw [List.take_succ_eq_append_getElem (by omega)]
    simp [cyc, itr]
  refine ac_of_awp (N := ⟨_, fun _ => false, fun _ _ => rfl⟩) Try.func186 rfl (by kernel_rfl) Try.ntmps186 (by simp) ?_
  simp only [argsFr, List.zipIdx_cons, List.zipIdx_nil, go_sem]
  repeat' (first | refine awp_seqK fun K hK => ?_ | (refine awp_regionK 32883 rfl ?_; simp only [List.map_cons, List.map_nil]; simp (maxSteps := 1000000) (dsimp := false) (implicitDefEqProofs := false) (disch := omega) only [wrap64, go_sem, hg0]) | (refine awp_regionQK 32883 (by kernel_rfl) (by kernel_rfl) (by kernel_rfl) ?_; simp only [List.map_cons, List.map_nil]; simp (maxSteps := 1000000) (dsimp := false) (implicitDefEqProofs := false) (disch := omega) only [wrap64, go_sem, hg0]) | refine awp_block ?_ | (refine awp_skip ?_; simp only [go_sem, hg0]) | (refine awp_exit ?_; simp only [go_sem, hg0]) | (refine awp_ret ?_; try simp only [go_sem, hg0]) | (refine awp_condP rfl ?_; try simp only [go_sem, hg0]) | (refine BrP.mk (fun h => ?_) (fun h => ?_) <;> try simp (dsimp := false) (disch := omega) only [wrap64]) | (refine Br.mk (fun h => ?_) (fun h => ?_) <;> try simp (dsimp := false) (disch := omega) only [wrap64]) | refine Ob.mk (by first | omega | (intro _ _; rfl) | trivial | (intros; trivial) | assumption | (intro i hi; have h0 : i = 0 := (by omega); subst h0; first | rfl | trivial) | (intro i hi; have h0 : i = 0 ∨ i = 1 := (by omega); rcases h0 with rfl | rfl <;> rfl) | (intro i hi; have h0 : i = 0 ∨ i = 1 ∨ i = 2 := (by omega); rcases h0 with rfl | rfl | rfl <;> rfl)) ?_ | apply_assumption -exfalso -symm)
  all_goals (first | (show endQ _ _ _ _ _ _ _; (repeat (rename (∀ (A : Fr) (H : Hp), AWP _ _ _ _ A H → _) => hK; clear hK)); (repeat (rename (Fr → Hp → Prop) => K; clear K))) | (show Exists _; (repeat (rename (∀ (A : Fr) (H : Hp), AWP _ _ _ _ A H → _) => hK; clear hK)); (repeat (rename (Fr → Hp → Prop) => K; clear K))) | skip)
  refine awp_loop (ι := Nat) (fun k => [(6, .v (.int .i64 ((itr p i k : Nat)))), (5, .own 8 0 1 k), (0, .list false 1 (p).length (cM iv 0 (p))), (1, .v (.int .i64 ((i : Nat))))]) (fun k => Hp.emp.upd 8 (.cells k (cM iv 0 ((cyc p i).take k)))) (fun k => 1 ≤ k ∧ k ≤ clen p i) (fun k => clen p i - k) 1 ?_ (Sub.toL (by simp only [go_sem] <;> first | trivial | (simp only [Option.some.injEq, AV.v.injEq, AV.own.injEq, AV.list.injEq, Value.int.injEq, Value.bool.injEq, true_and, and_true]; first | omega | (simp [h1]; done)) | (simp [h1]; done) | (simp [h1]; omega)) (by (repeat' (first | exact Hp.le_emp _ | exact Hp.le_refl _ | refine Hp.le_upd ?_ ?_)); all_goals (first | rfl | (simp only [go_sem]; first | rfl | (refine cellsE ?_ ?_ <;> (simp [h1])) | (simp [h1]))))) ?_
  · exact ⟨Nat.le_refl _, hc0⟩
  intro k hk
  have hgk := hg k
  have hbk := hb k
  have htl : ((cyc p i).take k).length = k := by rw [List.length_take]; omega
  repeat' (first | refine awp_seqK fun K hK => ?_ | (refine awp_regionK 32883 rfl ?_; simp only [List.map_cons, List.map_nil]; simp (maxSteps := 1000000) (dsimp := false) (implicitDefEqProofs := false) (disch := omega) only [wrap64, go_sem, hgk]) | (refine awp_regionQK 32883 (by kernel_rfl) (by kernel_rfl) (by kernel_rfl) ?_; simp only [List.map_cons, List.map_nil]; simp (maxSteps := 1000000) (dsimp := false) (implicitDefEqProofs := false) (disch := omega) only [wrap64, go_sem, hgk]) | refine awp_block ?_ | (refine awp_skip ?_; simp only [go_sem, hgk]) | (refine awp_exit ?_; simp only [go_sem, hgk]) | (refine awp_ret ?_; try simp only [go_sem, hgk]) | (refine awp_condP rfl ?_; try simp only [go_sem, hgk]) | (refine BrP.mk (fun h => ?_) (fun h => ?_) <;> try simp (dsimp := false) (disch := omega) only [wrap64]) | (refine Br.mk (fun h => ?_) (fun h => ?_) <;> try simp (dsimp := false) (disch := omega) only [wrap64]) | refine Ob.mk (by first | omega | (intro _ _; rfl) | trivial | (intros; trivial) | assumption | (intro i hi; have h0 : i = 0 := (by omega); subst h0; first | rfl | trivial) | (intro i hi; have h0 : i = 0 ∨ i = 1 := (by omega); rcases h0 with rfl | rfl <;> rfl) | (intro i hi; have h0 : i = 0 ∨ i = 1 ∨ i = 2 := (by omega); rcases h0 with rfl | rfl | rfl <;> rfl)) ?_ | apply_assumption -exfalso -symm)
  all_goals (first | (show endQ _ _ _ _ _ _ _; (repeat (rename (∀ (A : Fr) (H : Hp), AWP _ _ _ _ A H → _) => hK; clear hK)); (repeat (rename (Fr → Hp → Prop) => K; clear K))) | (show Exists _; (repeat (rename (∀ (A : Fr) (H : Hp), AWP _ _ _ _ A H → _) => hK; clear hK)); (repeat (rename (Fr → Hp → Prop) => K; clear K))) | skip)
  · have e : k = clen p i := by
      rcases Nat.lt_or_ge k (clen p i) with h | h
      · exact absurd (by omega : itr p i k = i) (hc3 k (by omega) h)
      · omega
    subst e
    refine end_retI' rfl rfl rfl ?_ htl.symm rfl
    rw [← hcl, List.take_length]
  · have hlt : k < clen p i := by
      rcases Nat.lt_or_ge k (clen p i) with h | h
      · exact h
      · have e : k = clen p i := by omega
        exact absurd (by rw [e]; exact hc2) (show ¬ itr p i k = i by omega)
    have e1 : (cyc p i).take (k + 1) = (cyc p i).take k ++ [((itr p i k : Nat) : Int)] := by
      rw [List.take_succ_eq_append_getElem (by omega)]
      simp [cyc]
    have hap := apF_cM iv 0 ((cyc p i).take k) [((itr p i k : Nat) : Int)]
    rw [htl, ← e1] at hap
    exact ⟨k + 1, by omega, by omega, Sub.toL (by simp only [go_sem] <;> first | trivial | (simp only [Option.some.injEq, AV.v.injEq, AV.own.injEq, AV.list.injEq, Value.int.injEq, Value.bool.injEq, true_and, and_true]; first | omega | (simp; done)) | (simp; done) | (simp; omega)) (by (repeat' (first | exact Hp.le_emp _ | exact Hp.le_refl _ | refine Hp.le_upd ?_ ?_)); all_goals (first | rfl | (simp only [go_sem]; first | rfl | (refine cellsE ?_ ?_ <;> (simp [hap])) | (simp [hap]))))⟩
end Go.Proofs.Ytngpacdhpblpbaa
end
/- Cycles of the reference: isSmallest, allCycles, Cycles, FormatCycles. -/
section
namespace Go.Proofs.Ytngpacdhpblpbaa
open Go.Av
set_option linter.unusedSimpArgs false
set_option linter.unusedVariables false
attribute [local irreducible] AWP CallG Ob Br BrP Go.Av.Sub endQ AOps OpV AC thenA blkA opsVC opVC withA withArgs opsQ opQ CallQ withA2 withArgs2
open Go.Pm (Pm cyc clen cycs isMn itr cyc_length cyc_get clen_pos clen_ok itr_lt)
theorem isSmallest_ok (xs : List Int) (hl : 1 ≤ xs.length ∧ xs.length ≤ 1000) : AC Try.prog 187 [ints xs] Hp.emp (fun _ => false) (retV (.v (.bool (decide (∀ j, j < xs.length → xs.getD 0 0 ≤ xs.getD j 0))))) := by
  refine ac_of_awp (N := ⟨_, fun _ => false, fun _ _ => rfl⟩) Try.func187 rfl (by kernel_rfl) Try.ntmps187 (by simp) ?_
  simp only [argsFr, List.zipIdx_cons, List.zipIdx_nil, go_sem]
  repeat' (first | refine awp_seqK fun K hK => ?_ | (refine awp_regionK 131213 rfl ?_; simp only [List.map_cons, List.map_nil]; simp (maxSteps := 1000000) (dsimp := false) (implicitDefEqProofs := false) (disch := omega) only [wrap64, go_sem]) | (refine awp_regionQK 131213 (by kernel_rfl) (by kernel_rfl) (by kernel_rfl) ?_; simp only [List.map_cons, List.map_nil]; simp (maxSteps := 1000000) (dsimp := false) (implicitDefEqProofs := false) (disch := omega) only [wrap64, go_sem]) | refine awp_block ?_ | (refine awp_skip ?_; simp only [go_sem]) | (refine awp_exit ?_; simp only [go_sem]) | (refine awp_ret ?_; try simp only [go_sem]) | (refine awp_condP rfl ?_; try simp only [go_sem]) | (refine BrP.mk (fun h => ?_) (fun h => ?_) <;> try simp (dsimp := false) (disch := omega) only [wrap64]) | (refine Br.mk (fun h => ?_) (fun h => ?_) <;> try simp (dsimp := false) (disch := omega) only [wrap64]) | refine Ob.mk (by first | omega | (intro _ _; rfl) | trivial | (intros; trivial) | assumption | (intro i hi; have h0 : i = 0 := (by omega); subst h0; first | rfl | trivial) | (intro i hi; have h0 : i = 0 ∨ i = 1 := (by omega); rcases h0 with rfl | rfl <;> rfl) | (intro i hi; have h0 : i = 0 ∨ i = 1 ∨ i = 2 := (by omega); rcases h0 with rfl | rfl | rfl <;> rfl)) ?_ | apply_assumption -exfalso -symm)
  all_goals (first | (show endQ _ _ _ _ _ _ _; (repeat (rename (∀ (A : Fr) (H : Hp), AWP _ _ _ _ A H → _) => hK; clear hK)); (repeat (rename (Fr → Hp → Prop) => K; clear K))) | (show Exists _; (repeat (rename (∀ (A : Fr) (H : Hp), AWP _ _ _ _ A H → _) => hK; clear hK)); (repeat (rename (Fr → Hp → Prop) => K; clear K))) | skip)
  refine awp_loop (ι := Nat) (fun k => [(3, .v (.int .i64 (((k : Nat) : Int) + 1))), (0, .list false 1 (xs).length (cM iv 0 (xs)))]) (fun _ => Hp.emp) (fun k => k + 1 ≤ xs.length ∧ Hold (∀ j, j < k + 1 → xs.getD 0 0 ≤ xs.getD j 0)) (fun k => xs.length - k) 0 ⟨by omega, ⟨fun j hj => by rw [show j = 0 by omega]; exact Int.le_refl _⟩⟩ (Sub.toL (by simp only [go_sem] <;> first | trivial | (simp only [Option.some.injEq, AV.v.injEq, AV.own.injEq, AV.list.injEq, Value.int.injEq, Value.bool.injEq, true_and, and_true]; first | omega | (simp; done)) | (simp; done) | (simp; omega)) (Hp.le_refl _)) ?_
  rintro k ⟨hk, hv⟩
  have e1 : (((k : Nat) : Int) + 1).toNat = k + 1 := by omega
  repeat' (first | refine awp_seqK fun K hK => ?_ | (refine awp_regionK 131213 rfl ?_; simp only [List.map_cons, List.map_nil]; simp (maxSteps := 1000000) (dsimp := false) (implicitDefEqProofs := false) (disch := omega) only [wrap64, go_sem, Int.toNat_zero, e1]) | (refine awp_regionQK 131213 (by kernel_rfl) (by kernel_rfl) (by kernel_rfl) ?_; simp only [List.map_cons, List.map_nil]; simp (maxSteps := 1000000) (dsimp := false) (implicitDefEqProofs := false) (disch := omega) only [wrap64, go_sem, Int.toNat_zero, e1]) | refine awp_block ?_ | (refine awp_skip ?_; simp only [go_sem, Int.toNat_zero, e1]) | (refine awp_exit ?_; simp only [go_sem, Int.toNat_zero, e1]) | (refine awp_ret ?_; try simp only [go_sem, Int.toNat_zero, e1]) | (refine awp_condP rfl ?_; try simp only [go_sem, Int.toNat_zero, e1]) | (refine BrP.mk (fun h => ?_) (fun h => ?_) <;> try simp (dsimp := false) (disch := omega) only [wrap64]) | (refine Br.mk (fun h => ?_) (fun h => ?_) <;> try simp (dsimp := false) (disch := omega) only [wrap64]) | refine Ob.mk (by first | omega | (intro _ _; rfl) | trivial | (intros; trivial) | assumption | (intro i hi; have h0 : i = 0 := (by omega); subst h0; first | rfl | trivial) | (intro i hi; have h0 : i = 0 ∨ i = 1 := (by omega); rcases h0 with rfl | rfl <;> rfl) | (intro i hi; have h0 : i = 0 ∨ i = 1 ∨ i = 2 := (by omega); rcases h0 with rfl | rfl | rfl <;> rfl)) ?_ | apply_assumption -exfalso -symm)
  all_goals (first | (show endQ _ _ _ _ _ _ _; (repeat (rename (∀ (A : Fr) (H : Hp), AWP _ _ _ _ A H → _) => hK; clear hK)); (repeat (rename (Fr → Hp → Prop) => K; clear K))) | (show Exists _; (repeat (rename (∀ (A : Fr) (H : Hp), AWP _ _ _ _ A H → _) => hK; clear hK)); (repeat (rename (Fr → Hp → Prop) => K; clear K))) | skip)
  · exact end_retB rfl rfl (by simp only [Bool.false_eq_true, false_iff]; exact fun h => by have := h (k + 1) (by omega); omega)
  · refine ⟨k + 1, ⟨by omega, ⟨fun j hj => ?_⟩⟩, by omega, Sub.toL (by simp only [go_sem] <;> first | trivial | (simp only [Option.some.injEq, AV.v.injEq, AV.own.injEq, AV.list.injEq, Value.int.injEq, Value.bool.injEq, true_and, and_true]; first | omega | (simp; done)) | (simp; done) | (simp; omega)) (Hp.le_refl _)⟩
    by_cases e : j = k + 1
    · rw [e]; omega
    · exact hv.h j (by omega)
  · exact end_retB rfl rfl (by simp only [true_iff]; exact fun j hj => hv.h j (by omega))
theorem smallest_cyc {n : Nat} {p : List Int} (hp : Pm n p) {i : Nat} (hi : i < n) : (∀ j, j < (cyc p i).length → (cyc p i).getD 0 0 ≤ (cyc p i).getD j 0) ↔ isMn p i = true := by
  unfold isMn
  rw [decide_eq_true_eq, cyc_length, cyc_get p i (clen_pos p i)]
  constructor
  · intro h k hk
    have := h k hk
    rw [cyc_get p i hk] at this
    have e : itr p i 0 = i := rfl
    omega
  · intro h j hj
    rw [cyc_get p i hj]
    have := h j hj
    have e : itr p i 0 = i := rfl
    omega
/-- The cycles that begin before x. -/
def acP (p : List Int) (x : Nat) : List (List Int) := ((List.range x).filter (isMn p)).map (cyc p)
theorem acP_succ (p : List Int) (x : Nat) : acP p (x + 1) = if isMn p x = true then acP p x ++ [cyc p x] else acP p x := by
  unfold acP
  rw [List.range_succ, List.filter_append, List.map_append]
  by_cases h : isMn p x = true
  · rw [if_pos h]; simp [h]
  · rw [if_neg h]; simp [h]
theorem acP_len (p : List Int) (x : Nat) : (acP p x).length ≤ x := by
  unfold acP
  rw [List.length_map]
  exact Nat.le_trans (List.length_filter_le _ _) (by rw [List.length_range]; exact Nat.le_refl _)
theorem allCycles_ok (n : Nat) (p : List Int) (hp : Pm n p) (hn : n ≤ 20) : AC Try.prog 165 [ints p] Hp.emp (fun _ => false) (retV (intss (acP p n))) := by
  have hpl := hp.1
  have hp := Hold.mk hp
  refine ac_of_awp (N := ⟨_, fun _ => false, fun _ _ => rfl⟩) Try.func165 rfl (by kernel_rfl) Try.ntmps165 (by simp) ?_
  simp only [argsFr, List.zipIdx_cons, List.zipIdx_nil, go_sem]
  repeat' (first | refine awp_seqK fun K hK => ?_ | (refine awp_regionK 132157 rfl ?_; simp only [List.map_cons, List.map_nil]; simp (maxSteps := 1000000) (dsimp := false) (implicitDefEqProofs := false) (disch := omega) only [wrap64, go_sem]) | (refine awp_regionQK 132157 (by kernel_rfl) (by kernel_rfl) (by kernel_rfl) ?_; simp only [List.map_cons, List.map_nil]; simp (maxSteps := 1000000) (dsimp := false) (implicitDefEqProofs := false) (disch := omega) only [wrap64, go_sem]) | refine awp_block ?_ | (refine awp_skip ?_; simp only [go_sem]) | (refine awp_exit ?_; simp only [go_sem]) | (refine awp_ret ?_; try simp only [go_sem]) | (refine awp_condP rfl ?_; try simp only [go_sem]) | (refine BrP.mk (fun h => ?_) (fun h => ?_) <;> try simp (dsimp := false) (disch := omega) only [wrap64]) | (refine Br.mk (fun h => ?_) (fun h => ?_) <;> try simp (dsimp := false) (disch := omega) only [wrap64]) | refine Ob.mk (by first | omega | (intro _ _; rfl) | trivial | (intros; trivial) | assumption | (intro i hi; have h0 : i = 0 := (by omega); subst h0; first | rfl | trivial) | (intro i hi; have h0 : i = 0 ∨ i = 1 := (by omega); rcases h0 with rfl | rfl <;> rfl) | (intro i hi; have h0 : i = 0 ∨ i = 1 ∨ i = 2 := (by omega); rcases h0 with rfl | rfl | rfl <;> rfl)) ?_ | apply_assumption -exfalso -symm)
  all_goals (first | (show endQ _ _ _ _ _ _ _; (repeat (rename (∀ (A : Fr) (H : Hp), AWP _ _ _ _ A H → _) => hK; clear hK)); (repeat (rename (Fr → Hp → Prop) => K; clear K))) | (show Exists _; (repeat (rename (∀ (A : Fr) (H : Hp), AWP _ _ _ _ A H → _) => hK; clear hK)); (repeat (rename (Fr → Hp → Prop) => K; clear K))) | skip)
  refine awp_loop (ι := Nat) (fun x => [(4, .v (.int .i64 ((x : Nat)))), (3, .own 6 0 1 (acP p x).length), (0, .list false 1 (p).length (cM iv 0 (p)))]) (fun x => Hp.emp.upd 6 (.cells (acP p x).length (cM ints [] (acP p x)))) (fun x => x ≤ n) (fun x => n - x) 0 (Nat.zero_le _) ?_ ?_
  · exact Sub.toFF (fun _ => False) (Fr.fit_cons rfl (.refl _) (Fr.fit_cons rfl (.refl _) (Fr.fit_cons rfl (.refl _) (Fr.fit_nil _)))) (leF_upd rfl (bfE rfl (fun i hi => absurd hi (Nat.not_lt_zero _))) leF_emp id)
  intro x hx
  have hml := acP_len p x
  have hsz := acP_succ p x
  have hcl := Hold.mk (fun h : x < n => clen_ok hp.h h)
  have hlen : x < n → 1 ≤ (cyc p x).length ∧ (cyc p x).length ≤ 20 := fun h => by have := (hcl.h h).1; have := clen_pos p x; rw [cyc_length]; omega
  have hco := Hold.mk (fun h : x < n => specCycleOf_ok n p x hp.h hn h 15)
  have hsm := Hold.mk (fun h : x < n => isSmallest_ok (cyc p x) (by have := hlen h; omega))
  have hmn := Hold.mk (fun h : x < n => smallest_cyc hp.h h)
  repeat' (first | refine awp_seqK fun K hK => ?_ | (refine awp_regionK 132157 rfl ?_; simp only [List.map_cons, List.map_nil]; simp (maxSteps := 1000000) (dsimp := false) (implicitDefEqProofs := false) (disch := omega) only [wrap64, go_sem]) | (refine awp_regionQK 132157 (by kernel_rfl) (by kernel_rfl) (by kernel_rfl) ?_; simp only [List.map_cons, List.map_nil]; simp (maxSteps := 1000000) (dsimp := false) (implicitDefEqProofs := false) (disch := omega) only [wrap64, go_sem]) | refine awp_block ?_ | (refine awp_skip ?_; simp only [go_sem]) | (refine awp_exit ?_; simp only [go_sem]) | (refine awp_ret ?_; try simp only [go_sem]) | (refine awp_condP rfl ?_; try simp only [go_sem]) | (refine BrP.mk (fun h => ?_) (fun h => ?_) <;> try simp (dsimp := false) (disch := omega) only [wrap64]) | (refine Br.mk (fun h => ?_) (fun h => ?_) <;> try simp (dsimp := false) (disch := omega) only [wrap64]) | refine Ob.mk (by first | omega | (intro _ _; rfl) | trivial | (intros; trivial) | assumption | (intro i hi; have h0 : i = 0 := (by omega); subst h0; first | rfl | trivial) | (intro i hi; have h0 : i = 0 ∨ i = 1 := (by omega); rcases h0 with rfl | rfl <;> rfl) | (intro i hi; have h0 : i = 0 ∨ i = 1 ∨ i = 2 := (by omega); rcases h0 with rfl | rfl | rfl <;> rfl)) ?_ | ((first | (refine cFI (hac := hco.h (by omega)) (hK := ?_)) | (refine cQI (hac := hco.h (by omega)) (hK := ?_)) | (refine cV (hac := hsm.h (by omega)) (hK := ?_)) | (refine cQV (hac := hsm.h (by omega)) (hK := ?_))); simp (maxSteps := 1000000) (dsimp := false) (implicitDefEqProofs := false) (disch := omega) only [wrap64, go_sem]) | apply_assumption -exfalso -symm)
  all_goals (first | (show endQ _ _ _ _ _ _ _; (repeat (rename (∀ (A : Fr) (H : Hp), AWP _ _ _ _ A H → _) => hK; clear hK)); (repeat (rename (Fr → Hp → Prop) => K; clear K))) | (show Exists _; (repeat (rename (∀ (A : Fr) (H : Hp), AWP _ _ _ _ A H → _) => hK; clear hK)); (repeat (rename (Fr → Hp → Prop) => K; clear K))) | skip)
  · have hm := (hmn.h (by omega)).1 (by assumption)
    rw [if_pos hm] at hsz
    refine ⟨x + 1, by omega, by omega, ?_⟩
    have e1 : (acP p (x + 1)).length = (acP p x).length + 1 := by rw [hsz, List.length_append, List.length_singleton]
    rw [e1, hsz]
    exact Sub.toFF (fun _ => False) (Fr.fit_cons rfl (.refl _) (Fr.fit_cons rfl (.refl _) (Fr.fit_cons rfl (.refl _) (Fr.fit_nil _)))) (leF_upd rfl (bfE rfl (ap_ints (acP p x) (cyc p x))) leF_emp id)
  · have hm : ¬ isMn p x = true := fun h => absurd ((hmn.h (by omega)).2 h) (by assumption)
    rw [if_neg hm] at hsz
    refine ⟨x + 1, by omega, by omega, ?_⟩
    rw [hsz]
    exact Sub.toL (by simp only [go_sem] <;> first | trivial | (simp only [Option.some.injEq, AV.v.injEq, AV.own.injEq, AV.list.injEq, Value.int.injEq, Value.bool.injEq, true_and, and_true]; first | omega | (simp; done)) | (simp; done) | (simp; omega)) (Hp.le_refl _)
  · have e : x = n := by omega
    rw [e]
    exact end_retF rfl rfl (fits_II rfl trivial rfl rfl)
theorem acP_row (n : Nat) (p : List Int) (hp : Pm n p) (hn : n ≤ 20) (j : Nat) : ((acP p n).getD j []).length ≤ 20 ∧ ∀ i, i < ((acP p n).getD j []).length → 0 ≤ ((acP p n).getD j []).getD i 0 ∧ ((acP p n).getD j []).getD i 0 < 20 := by
  by_cases hj : j < (acP p n).length
  · have hm : (acP p n).getD j [] ∈ acP p n := by rw [List.getD_eq_getElem?_getD, List.getElem?_eq_getElem hj]; exact List.getElem_mem hj
    obtain ⟨x, hx, e⟩ := List.mem_map.1 hm
    have hxn : x < n := List.mem_range.1 (List.mem_filter.1 hx).1
    rw [← e]
    have := (clen_ok hp hxn).1
    rw [cyc_length]
    refine ⟨by omega, fun i hi => ?_⟩
    rw [cyc_get p x hi]
    have := itr_lt hp hxn i
    omega
  · rw [List.getD_eq_getElem?_getD, List.getElem?_eq_none (by omega)]
    exact ⟨Nat.zero_le _, fun i hi => absurd hi (Nat.not_lt_zero _)⟩
/-- The cycles of more than one point, among the first k. -/
def cyK (cs : List (List Int)) (k : Nat) : List (List Int) := (cs.take k).filter fun c => decide (1 < c.length)
theorem cyK_succ {cs : List (List Int)} {k : Nat} (h : k < cs.length) : cyK cs (k + 1) = if 1 < (cs.getD k []).length then cyK cs k ++ [cs.getD k []] else cyK cs k := by
  unfold cyK
  rw [List.take_add_one, List.filter_append, List.getD_eq_getElem?_getD, List.getElem?_eq_getElem h]
  simp only [Option.toList_some, Option.getD_some]
  by_cases h2 : 1 < cs[k].length
  · rw [if_pos h2]; simp [h2]
  · rw [if_neg h2]; simp [h2]
theorem cyK_len (cs : List (List Int)) (k : Nat) : (cyK cs k).length ≤ k := by
  unfold cyK
  exact Nat.le_trans (List.length_filter_le _ _) (by rw [List.length_take]; omega)
theorem cyK_all (n : Nat) (p : List Int) (hp : Pm n p) : cyK (acP p n) (acP p n).length = cycs p := by
  unfold cyK cycs acP
  rw [List.take_length, List.filter_map, List.filter_filter, hp.1]
  refine congrArg _ (List.filter_congr fun x _ => ?_)
  simp [Function.comp, cyc_length, Bool.and_comm]
/-- What Cycles answers. -/
def cyP (p : List Int) : List (List Int) := if isPerm p then cycs p else []
theorem specCycles_ok (p : List Int) : AC Try.prog 217 [ints p] Hp.emp (fun _ => false) (retV (intss (cyP p))) := by
  by_cases hok : isPerm p
  · have hd : decide (isPerm p) = true := decide_eq_true hok
    obtain ⟨h1, h2⟩ := (isPerm_pm p).1 hok
    have hall := allCycles_ok p.length p h2 h1.2
    obtain ⟨cs, ecs⟩ : ∃ cs, cs = acP p p.length := ⟨_, rfl⟩
    have hcl : cs.length ≤ p.length := by rw [ecs]; exact acP_len p p.length
    rw [show cyP p = cyK cs cs.length from (if_pos hok).trans (by rw [ecs]; exact (cyK_all p.length p h2).symm)]
    rw [← ecs] at hall
    have hrow := Hold.mk (fun j => (acP_row p.length p h2 h1.2 j).1)
    rw [← ecs] at hrow
    refine ac_of_awp (N := ⟨_, fun _ => false, fun _ _ => rfl⟩) Try.func217 rfl (by kernel_rfl) Try.ntmps217 (by simp) ?_
    simp only [argsFr, List.zipIdx_cons, List.zipIdx_nil, go_sem]
    repeat' (first | refine awp_seqK fun K hK => ?_ | (refine awp_regionK 16843325 rfl ?_; simp only [List.map_cons, List.map_nil]; simp (maxSteps := 1000000) (dsimp := false) (implicitDefEqProofs := false) (disch := omega) only [wrap64, go_sem, hd]) | (refine awp_regionQK 16843325 (by kernel_rfl) (by kernel_rfl) (by kernel_rfl) ?_; simp only [List.map_cons, List.map_nil]; simp (maxSteps := 1000000) (dsimp := false) (implicitDefEqProofs := false) (disch := omega) only [wrap64, go_sem, hd]) | refine awp_block ?_ | (refine awp_skip ?_; simp only [go_sem, hd]) | (refine awp_exit ?_; simp only [go_sem, hd]) | (refine awp_ret ?_; try simp only [go_sem, hd]) | (refine awp_condP rfl ?_; try simp only [go_sem, hd]) | (refine BrP.mk (fun h => ?_) (fun h => ?_) <;> try simp (dsimp := false) (disch := omega) only [wrap64]) | (refine Br.mk (fun h => ?_) (fun h => ?_) <;> try simp (dsimp := false) (disch := omega) only [wrap64]) | refine Ob.mk (by first | omega | (intro _ _; rfl) | trivial | (intros; trivial) | assumption | (intro i hi; have h0 : i = 0 := (by omega); subst h0; first | rfl | trivial) | (intro i hi; have h0 : i = 0 ∨ i = 1 := (by omega); rcases h0 with rfl | rfl <;> rfl) | (intro i hi; have h0 : i = 0 ∨ i = 1 ∨ i = 2 := (by omega); rcases h0 with rfl | rfl | rfl <;> rfl)) ?_ | ((first | ((first | refine atF (f := 55) ?_ | refine atQ (f := 55) ?_); (first | (refine cV (hac := specIsPermutation_ok p) (hK := ?_)) | (refine cQV (hac := specIsPermutation_ok p) (hK := ?_)))) | (refine cR (hac := hall) (hK := ?_)) | (refine cQR (hac := hall) (hK := ?_))); simp (maxSteps := 1000000) (dsimp := false) (implicitDefEqProofs := false) (disch := omega) only [wrap64, go_sem, hd]) | apply_assumption -exfalso -symm)
    all_goals (first | (show endQ _ _ _ _ _ _ _; (repeat (rename (∀ (A : Fr) (H : Hp), AWP _ _ _ _ A H → _) => hK; clear hK)); (repeat (rename (Fr → Hp → Prop) => K; clear K))) | (show Exists _; (repeat (rename (∀ (A : Fr) (H : Hp), AWP _ _ _ _ A H → _) => hK; clear hK)); (repeat (rename (Fr → Hp → Prop) => K; clear K))) | skip)
    refine awp_loop (ι := Nat) (fun k => [(5, .v (.int .i64 ((k : Nat)))), (3, .own 6 0 1 (cyK cs k).length), (4, .list false 1 (cs).length (cM ints [] (cs)))]) (fun k => Hp.emp.upd 6 (.cells (cyK cs k).length (cM ints [] (cyK cs k)))) (fun k => k ≤ cs.length) (fun k => cs.length - k) 0 (Nat.zero_le _) ?_ ?_
    · exact Sub.toFF (fun _ => False) (Fr.fit_cons rfl (.refl _) (Fr.fit_cons rfl (.refl _) (Fr.fit_cons rfl (.refl _) (Fr.fit_nil _)))) (leF_upd rfl (bfE rfl (fun i hi => absurd hi (Nat.not_lt_zero _))) leF_emp id)
    intro k hk
    have hml := cyK_len cs k
    have hsz := fun h => cyK_succ (cs := cs) (k := k) h
    have hr := hrow.h k
    repeat' (first | refine awp_seqK fun K hK => ?_ | (refine awp_regionK 16843325 rfl ?_; simp only [List.map_cons, List.map_nil]; simp (maxSteps := 1000000) (dsimp := false) (implicitDefEqProofs := false) (disch := omega) only [wrap64, go_sem]) | (refine awp_regionQK 16843325 (by kernel_rfl) (by kernel_rfl) (by kernel_rfl) ?_; simp only [List.map_cons, List.map_nil]; simp (maxSteps := 1000000) (dsimp := false) (implicitDefEqProofs := false) (disch := omega) only [wrap64, go_sem]) | refine awp_block ?_ | (refine awp_skip ?_; simp only [go_sem]) | (refine awp_exit ?_; simp only [go_sem]) | (refine awp_ret ?_; try simp only [go_sem]) | (refine awp_condP rfl ?_; try simp only [go_sem]) | (refine BrP.mk (fun h => ?_) (fun h => ?_) <;> try simp (dsimp := false) (disch := omega) only [wrap64]) | (refine Br.mk (fun h => ?_) (fun h => ?_) <;> try simp (dsimp := false) (disch := omega) only [wrap64]) | refine Ob.mk (by first | omega | (intro _ _; rfl) | trivial | (intros; trivial) | assumption | (intro i hi; have h0 : i = 0 := (by omega); subst h0; first | rfl | trivial) | (intro i hi; have h0 : i = 0 ∨ i = 1 := (by omega); rcases h0 with rfl | rfl <;> rfl) | (intro i hi; have h0 : i = 0 ∨ i = 1 ∨ i = 2 := (by omega); rcases h0 with rfl | rfl | rfl <;> rfl)) ?_ | apply_assumption -exfalso -symm)
    all_goals (first | (show endQ _ _ _ _ _ _ _; (repeat (rename (∀ (A : Fr) (H : Hp), AWP _ _ _ _ A H → _) => hK; clear hK)); (repeat (rename (Fr → Hp → Prop) => K; clear K))) | (show Exists _; (repeat (rename (∀ (A : Fr) (H : Hp), AWP _ _ _ _ A H → _) => hK; clear hK)); (repeat (rename (Fr → Hp → Prop) => K; clear K))) | skip)
    · have e0 := hsz (by omega)
      rw [if_pos (by omega)] at e0
      refine ⟨k + 1, by omega, by omega, ?_⟩
      have e1 : (cyK cs (k + 1)).length = (cyK cs k).length + 1 := by rw [e0, List.length_append, List.length_singleton]
      rw [e1, e0]
      exact Sub.toFF (fun _ => False) (Fr.fit_cons rfl (.refl _) (Fr.fit_cons rfl (.refl _) (Fr.fit_cons rfl (.refl _) (Fr.fit_nil _)))) (leF_upd rfl (bfE rfl (ap_ints (cyK cs k) (cs.getD k []))) leF_emp id)
    · have e0 := hsz (by omega)
      rw [if_neg (by omega)] at e0
      refine ⟨k + 1, by omega, by omega, ?_⟩
      rw [e0]
      exact Sub.toL (by simp only [go_sem] <;> first | trivial | (simp only [Option.some.injEq, AV.v.injEq, AV.own.injEq, AV.list.injEq, Value.int.injEq, Value.bool.injEq, true_and, and_true]; first | omega | (simp; done)) | (simp; done) | (simp; omega)) (Hp.le_refl _)
    · have e : k = cs.length := by omega
      rw [e]
      exact end_retF rfl rfl (fits_II rfl trivial rfl rfl)
  · have hd : decide (isPerm p) = false := decide_eq_false hok
    rw [show cyP p = [] from if_neg hok]
    refine ac_of_awp (N := ⟨_, fun _ => false, fun _ _ => rfl⟩) Try.func217 rfl (by kernel_rfl) Try.ntmps217 (by simp) ?_
    simp only [argsFr, List.zipIdx_cons, List.zipIdx_nil, go_sem]
    repeat' (first | refine awp_seqK fun K hK => ?_ | (refine awp_regionK 16843325 rfl ?_; simp only [List.map_cons, List.map_nil]; simp (maxSteps := 1000000) (dsimp := false) (implicitDefEqProofs := false) (disch := omega) only [wrap64, go_sem, hd]) | (refine awp_regionQK 16843325 (by kernel_rfl) (by kernel_rfl) (by kernel_rfl) ?_; simp only [List.map_cons, List.map_nil]; simp (maxSteps := 1000000) (dsimp := false) (implicitDefEqProofs := false) (disch := omega) only [wrap64, go_sem, hd]) | refine awp_block ?_ | (refine awp_skip ?_; simp only [go_sem, hd]) | (refine awp_exit ?_; simp only [go_sem, hd]) | (refine awp_ret ?_; try simp only [go_sem, hd]) | (refine awp_condP rfl ?_; try simp only [go_sem, hd]) | (refine BrP.mk (fun h => ?_) (fun h => ?_) <;> try simp (dsimp := false) (disch := omega) only [wrap64]) | (refine Br.mk (fun h => ?_) (fun h => ?_) <;> try simp (dsimp := false) (disch := omega) only [wrap64]) | refine Ob.mk (by first | omega | (intro _ _; rfl) | trivial | (intros; trivial) | assumption | (intro i hi; have h0 : i = 0 := (by omega); subst h0; first | rfl | trivial) | (intro i hi; have h0 : i = 0 ∨ i = 1 := (by omega); rcases h0 with rfl | rfl <;> rfl) | (intro i hi; have h0 : i = 0 ∨ i = 1 ∨ i = 2 := (by omega); rcases h0 with rfl | rfl | rfl <;> rfl)) ?_ | ((first | ((first | refine atF (f := 55) ?_ | refine atQ (f := 55) ?_); (first | (refine cV (hac := specIsPermutation_ok p) (hK := ?_)) | (refine cQV (hac := specIsPermutation_ok p) (hK := ?_))))); simp (maxSteps := 1000000) (dsimp := false) (implicitDefEqProofs := false) (disch := omega) only [wrap64, go_sem, hd]) | apply_assumption -exfalso -symm)
    all_goals (first | (show endQ _ _ _ _ _ _ _; (repeat (rename (∀ (A : Fr) (H : Hp), AWP _ _ _ _ A H → _) => hK; clear hK)); (repeat (rename (Fr → Hp → Prop) => K; clear K))) | (show Exists _; (repeat (rename (∀ (A : Fr) (H : Hp), AWP _ _ _ _ A H → _) => hK; clear hK)); (repeat (rename (Fr → Hp → Prop) => K; clear K))) | skip)
    exact end_retF rfl rfl (fits_II0 rfl trivial)
theorem cyP_prop (p : List Int) : (cyP p).length ≤ 20 ∧ ∀ j, ((cyP p).getD j []).length ≤ 20 ∧ ∀ i, i < ((cyP p).getD j []).length → 0 ≤ ((cyP p).getD j []).getD i 0 ∧ ((cyP p).getD j []).getD i 0 < 1000 := by
  have hno : ∀ {xs : List (List Int)} {j : Nat}, ¬ j < xs.length → (xs.getD j []).length ≤ 20 ∧ ∀ i, i < (xs.getD j []).length → 0 ≤ (xs.getD j []).getD i 0 ∧ (xs.getD j []).getD i 0 < 1000 := fun {xs j} h => by
    rw [List.getD_eq_getElem?_getD, List.getElem?_eq_none (by omega)]
    exact ⟨Nat.zero_le _, fun i hi => absurd hi (Nat.not_lt_zero _)⟩
  unfold cyP
  split
  · rename_i hok
    obtain ⟨h1, h2⟩ := (isPerm_pm p).1 hok
    rw [← cyK_all p.length p h2]
    refine ⟨Nat.le_trans (cyK_len _ _) (Nat.le_trans (acP_len p p.length) h1.2), fun j => ?_⟩
    by_cases hj : j < (cyK (acP p p.length) (acP p p.length).length).length
    · have hm : (cyK (acP p p.length) (acP p p.length).length).getD j [] ∈ cyK (acP p p.length) (acP p p.length).length := by rw [List.getD_eq_getElem?_getD, List.getElem?_eq_getElem hj]; exact List.getElem_mem hj
      obtain ⟨c, ec⟩ : ∃ c, c = (cyK (acP p p.length) (acP p p.length).length).getD j [] := ⟨_, rfl⟩
      rw [← ec] at hm ⊢
      unfold cyK at hm
      have hm := List.mem_of_mem_take (List.mem_filter.1 hm).1
      obtain ⟨i, hi, rfl⟩ := List.getElem_of_mem hm
      have := acP_row p.length p h2 h1.2 i
      rw [List.getD_eq_getElem?_getD, List.getElem?_eq_getElem hi] at this
      exact ⟨this.1, fun k hk => by have := this.2 k hk; simp only [Option.getD_some] at this; omega⟩
    · exact hno hj
  · exact ⟨Nat.zero_le _, fun j => hno (Nat.not_lt_zero _)⟩
/-- The text of the first k cycles. -/
def fcS (cs : List (List Int)) : Nat → ByteArray
  | 0 => ⟨#[]⟩
  | k + 1 => fcS cs k ++ ⟨#[40]⟩ ++ fisP (cs.getD k []) ++ ⟨#[41]⟩
theorem fisP_size (xs : List Int) (h : xs.length ≤ 20) : (fisP xs).size ≤ 20020 := by
  have := jnS_size ⟨#[32]⟩ (fisS xs xs.length) 1000 (fisS_row xs xs.length) xs.length
  have h2 : (⟨#[32]⟩ : ByteArray).size = 1 := rfl
  rw [h2] at this
  have h3 : xs.length * (1000 + 1) ≤ 20 * 1001 := Nat.mul_le_mul h (Nat.le_refl _)
  unfold fisP; omega
theorem fcS_size (cs : List (List Int)) (h : ∀ j, (cs.getD j []).length ≤ 20) : ∀ k, (fcS cs k).size ≤ k * 20022
  | 0 => Nat.zero_le _
  | k + 1 => by
    have h1 := fcS_size cs h k
    have h2 := fisP_size (cs.getD k []) (h k)
    have e1 : (⟨#[40]⟩ : ByteArray).size = 1 := rfl
    have e2 : (⟨#[41]⟩ : ByteArray).size = 1 := rfl
    unfold fcS
    rw [ByteArray.size_append, ByteArray.size_append, ByteArray.size_append, e1, e2]
    omega
/-- What FormatCycles answers. -/
def fcP (p : List Int) : ByteArray := if isPerm p then (if (fcS (cyP p) (cyP p).length).toList = (⟨#[]⟩ : ByteArray).toList then ⟨#[40, 41]⟩ else fcS (cyP p) (cyP p).length) else ⟨#[]⟩
theorem formatCycles_ok (p : List Int) : AC Try.prog 214 [ints p] Hp.emp (fun _ => false) (retV (.v (.string (fcP p)))) := by
  by_cases hok : isPerm p
  · have hd : decide (isPerm p) = true := decide_eq_true hok
    have hcy := specCycles_ok p
    obtain ⟨hcl, hcr⟩ := cyP_prop p
    rw [show fcP p = if (fcS (cyP p) (cyP p).length).toList = (⟨#[]⟩ : ByteArray).toList then ⟨#[40, 41]⟩ else fcS (cyP p) (cyP p).length from if_pos hok]
    obtain ⟨cs, ecs⟩ : ∃ cs, cs = cyP p := ⟨_, rfl⟩
    rw [← ecs] at hcy hcl hcr ⊢
    have hfs := fcS_size cs fun j => (hcr j).1
    have hfs := Hold.mk hfs
    have hcr := Hold.mk hcr
    refine ac_of_awp (N := ⟨_, fun _ => false, fun _ _ => rfl⟩) Try.func214 rfl (by kernel_rfl) Try.ntmps214 (by simp) ?_
    simp only [argsFr, List.zipIdx_cons, List.zipIdx_nil, go_sem]
    repeat' (first | refine awp_seqK fun K hK => ?_ | (refine awp_regionK 134234429 rfl ?_; simp only [List.map_cons, List.map_nil]; simp (maxSteps := 1000000) (dsimp := false) (implicitDefEqProofs := false) (disch := omega) only [wrap64, go_sem, hd]) | (refine awp_regionQK 134234429 (by kernel_rfl) (by kernel_rfl) (by kernel_rfl) ?_; simp only [List.map_cons, List.map_nil]; simp (maxSteps := 1000000) (dsimp := false) (implicitDefEqProofs := false) (disch := omega) only [wrap64, go_sem, hd]) | refine awp_block ?_ | (refine awp_skip ?_; simp only [go_sem, hd]) | (refine awp_exit ?_; simp only [go_sem, hd]) | (refine awp_ret ?_; try simp only [go_sem, hd]) | (refine awp_condP rfl ?_; try simp only [go_sem, hd]) | (refine BrP.mk (fun h => ?_) (fun h => ?_) <;> try simp (dsimp := false) (disch := omega) only [wrap64]) | (refine Br.mk (fun h => ?_) (fun h => ?_) <;> try simp (dsimp := false) (disch := omega) only [wrap64]) | refine Ob.mk (by first | omega | (intro _ _; rfl) | trivial | (intros; trivial) | assumption | (intro i hi; have h0 : i = 0 := (by omega); subst h0; first | rfl | trivial) | (intro i hi; have h0 : i = 0 ∨ i = 1 := (by omega); rcases h0 with rfl | rfl <;> rfl) | (intro i hi; have h0 : i = 0 ∨ i = 1 ∨ i = 2 := (by omega); rcases h0 with rfl | rfl | rfl <;> rfl)) ?_ | ((first | ((first | refine atF (f := 55) ?_ | refine atQ (f := 55) ?_); (first | (refine cV (hac := specIsPermutation_ok p) (hK := ?_)) | (refine cQV (hac := specIsPermutation_ok p) (hK := ?_)))) | (refine cR (hac := hcy) (hK := ?_)) | (refine cQR (hac := hcy) (hK := ?_))); simp (maxSteps := 1000000) (dsimp := false) (implicitDefEqProofs := false) (disch := omega) only [wrap64, go_sem, hd]) | apply_assumption -exfalso -symm)
    all_goals (first | (show endQ _ _ _ _ _ _ _; (repeat (rename (∀ (A : Fr) (H : Hp), AWP _ _ _ _ A H → _) => hK; clear hK)); (repeat (rename (Fr → Hp → Prop) => K; clear K))) | (show Exists _; (repeat (rename (∀ (A : Fr) (H : Hp), AWP _ _ _ _ A H → _) => hK; clear hK)); (repeat (rename (Fr → Hp → Prop) => K; clear K))) | skip)
    refine awp_loop (ι := Nat) (fun k => [(5, .v (.int .i64 ((k : Nat)))), (4, .v (.string (fcS cs k))), (3, .list false 1 (cs).length (cM ints [] (cs)))]) (fun k => Hp.emp) (fun k => k ≤ cs.length) (fun k => cs.length - k) 0 ?_ (Sub.toL (by simp only [go_sem] <;> first | trivial | (simp only [Option.some.injEq, AV.v.injEq, AV.own.injEq, AV.list.injEq, Value.int.injEq, Value.bool.injEq, true_and, and_true]; first | omega | (simp [fcS]; done)) | (simp [fcS]; done) | (simp [fcS]; omega)) (by (repeat' (first | exact Hp.le_emp _ | exact Hp.le_refl _ | refine Hp.le_upd ?_ ?_)); all_goals (first | rfl | (simp only [go_sem]; first | rfl | (refine cellsE ?_ ?_ <;> (simp [fcS])) | (simp [fcS]))))) ?_
    · exact Nat.zero_le _
    intro k hk
    have h1 := hfs.h k
    have h2 := (hcr.h k).1
    have h3 := fisP_size (cs.getD k []) h2
    have hfi := Hold.mk (formatInts_ok (cs.getD k []) (by omega) (hcr.h k).2)
    have hst : fcS cs (k + 1) = fcS cs k ++ ⟨#[40]⟩ ++ fisP (cs.getD k []) ++ ⟨#[41]⟩ := rfl
    have e1 : (fcS cs k ++ (⟨#[40]⟩ : ByteArray)).size = (fcS cs k).size + 1 := by rw [ByteArray.size_append]; rfl
    have e2 : (fcS cs k ++ (⟨#[40]⟩ : ByteArray) ++ fisP (cs.getD k [])).size = (fcS cs k).size + 1 + (fisP (cs.getD k [])).size := by rw [ByteArray.size_append, e1]
    repeat' (first | refine awp_seqK fun K hK => ?_ | (refine awp_regionK 134234429 rfl ?_; simp only [List.map_cons, List.map_nil]; simp (maxSteps := 1000000) (dsimp := false) (implicitDefEqProofs := false) (disch := omega) only [wrap64, go_sem, e2, e1]) | (refine awp_regionQK 134234429 (by kernel_rfl) (by kernel_rfl) (by kernel_rfl) ?_; simp only [List.map_cons, List.map_nil]; simp (maxSteps := 1000000) (dsimp := false) (implicitDefEqProofs := false) (disch := omega) only [wrap64, go_sem, e2, e1]) | refine awp_block ?_ | (refine awp_skip ?_; simp only [go_sem, e2, e1]) | (refine awp_exit ?_; simp only [go_sem, e2, e1]) | (refine awp_ret ?_; try simp only [go_sem, e2, e1]) | (refine awp_condP rfl ?_; try simp only [go_sem, e2, e1]) | (refine BrP.mk (fun h => ?_) (fun h => ?_) <;> try simp (dsimp := false) (disch := omega) only [wrap64]) | (refine Br.mk (fun h => ?_) (fun h => ?_) <;> try simp (dsimp := false) (disch := omega) only [wrap64]) | refine Ob.mk (by first | omega | (intro _ _; rfl) | trivial | (intros; trivial) | assumption | (intro i hi; have h0 : i = 0 := (by omega); subst h0; first | rfl | trivial) | (intro i hi; have h0 : i = 0 ∨ i = 1 := (by omega); rcases h0 with rfl | rfl <;> rfl) | (intro i hi; have h0 : i = 0 ∨ i = 1 ∨ i = 2 := (by omega); rcases h0 with rfl | rfl | rfl <;> rfl)) ?_ | ((first | (refine cV (hac := hfi.h) (hK := ?_)) | (refine cQV (hac := hfi.h) (hK := ?_))); simp (maxSteps := 1000000) (dsimp := false) (implicitDefEqProofs := false) (disch := omega) only [wrap64, go_sem, e2, e1]) | apply_assumption -exfalso -symm)
    all_goals (first | (show endQ _ _ _ _ _ _ _; (repeat (rename (∀ (A : Fr) (H : Hp), AWP _ _ _ _ A H → _) => hK; clear hK)); (repeat (rename (Fr → Hp → Prop) => K; clear K))) | (show Exists _; (repeat (rename (∀ (A : Fr) (H : Hp), AWP _ _ _ _ A H → _) => hK; clear hK)); (repeat (rename (Fr → Hp → Prop) => K; clear K))) | skip)
    · refine ⟨k + 1, by omega, by omega, ?_⟩
      rw [hst]
      exact Sub.toL (by simp only [go_sem] <;> first | trivial | (simp only [Option.some.injEq, AV.v.injEq, AV.own.injEq, AV.list.injEq, Value.int.injEq, Value.bool.injEq, true_and, and_true]; first | omega | (simp; done)) | (simp; done) | (simp; omega)) (Hp.le_refl _)
    · have e : k = cs.length := by omega
      subst e
      exact end_retV' rfl rfl (by rw [if_pos (by assumption)])
    · have e : k = cs.length := by omega
      subst e
      exact end_retV' rfl rfl (by rw [if_neg (by assumption)])
  · have hd : decide (isPerm p) = false := decide_eq_false hok
    rw [show fcP p = ⟨#[]⟩ from if_neg hok]
    refine ac_of_awp (N := ⟨_, fun _ => false, fun _ _ => rfl⟩) Try.func214 rfl (by kernel_rfl) Try.ntmps214 (by simp) ?_
    simp only [argsFr, List.zipIdx_cons, List.zipIdx_nil, go_sem]
    repeat' (first | refine awp_seqK fun K hK => ?_ | (refine awp_regionK 134234429 rfl ?_; simp only [List.map_cons, List.map_nil]; simp (maxSteps := 1000000) (dsimp := false) (implicitDefEqProofs := false) (disch := omega) only [wrap64, go_sem, hd]) | (refine awp_regionQK 134234429 (by kernel_rfl) (by kernel_rfl) (by kernel_rfl) ?_; simp only [List.map_cons, List.map_nil]; simp (maxSteps := 1000000) (dsimp := false) (implicitDefEqProofs := false) (disch := omega) only [wrap64, go_sem, hd]) | refine awp_block ?_ | (refine awp_skip ?_; simp only [go_sem, hd]) | (refine awp_exit ?_; simp only [go_sem, hd]) | (refine awp_ret ?_; try simp only [go_sem, hd]) | (refine awp_condP rfl ?_; try simp only [go_sem, hd]) | (refine BrP.mk (fun h => ?_) (fun h => ?_) <;> try simp (dsimp := false) (disch := omega) only [wrap64]) | (refine Br.mk (fun h => ?_) (fun h => ?_) <;> try simp (dsimp := false) (disch := omega) only [wrap64]) | refine Ob.mk (by first | omega | (intro _ _; rfl) | trivial | (intros; trivial) | assumption | (intro i hi; have h0 : i = 0 := (by omega); subst h0; first | rfl | trivial) | (intro i hi; have h0 : i = 0 ∨ i = 1 := (by omega); rcases h0 with rfl | rfl <;> rfl) | (intro i hi; have h0 : i = 0 ∨ i = 1 ∨ i = 2 := (by omega); rcases h0 with rfl | rfl | rfl <;> rfl)) ?_ | ((first | ((first | refine atF (f := 55) ?_ | refine atQ (f := 55) ?_); (first | (refine cV (hac := specIsPermutation_ok p) (hK := ?_)) | (refine cQV (hac := specIsPermutation_ok p) (hK := ?_))))); simp (maxSteps := 1000000) (dsimp := false) (implicitDefEqProofs := false) (disch := omega) only [wrap64, go_sem, hd]) | apply_assumption -exfalso -symm)
    all_goals (first | (show endQ _ _ _ _ _ _ _; (repeat (rename (∀ (A : Fr) (H : Hp), AWP _ _ _ _ A H → _) => hK; clear hK)); (repeat (rename (Fr → Hp → Prop) => K; clear K))) | (show Exists _; (repeat (rename (∀ (A : Fr) (H : Hp), AWP _ _ _ _ A H → _) => hK; clear hK)); (repeat (rename (Fr → Hp → Prop) => K; clear K))) | skip)
    exact end_retV rfl rfl
end Go.Proofs.Ytngpacdhpblpbaa
end
/- Cycles of the reference: parseCycle. -/
section
namespace Go.Proofs.Ytngpacdhpblpbaa
open Go.Av
set_option linter.unusedSimpArgs false
set_option linter.unusedVariables false
attribute [local irreducible] AWP CallG Ob Br BrP Go.Av.Sub endQ AOps OpV AC thenA blkA opsVC opVC withA withArgs opsQ opQ CallQ withA2 withArgs2
theorem piT_scrub (p : Nat → Bool) (a : Int) (b : Bool) : (AV.tup 2 (vecF [.v (.int .i64 (a)), .v (.bool (b))])).scrub p = .tup 2 (vecF [.v (.int .i64 (a)), .v (.bool (b))]) := by
  simp only [scrub_tup, scF_vecF, List.map_cons, List.map_nil]; rfl
/-- The numbers of the first k pieces. -/
def pcI (ws : List ByteArray) (k : Nat) : List Int := (ws.take k).map pvP
theorem pcI_len (ws : List ByteArray) {k : Nat} (h : k ≤ ws.length) : (pcI ws k).length = k := by unfold pcI; rw [List.length_map, List.length_take]; omega
theorem pcI_succ (ws : List ByteArray) {k : Nat} (h : k < ws.length) : pcI ws (k + 1) = pcI ws k ++ [pvP (ws.getD k ByteArray.empty)] := by
  unfold pcI
  rw [List.take_add_one, List.map_append, List.getD_eq_getElem?_getD, List.getElem?_eq_getElem h]
  rfl
theorem pcI_get (ws : List ByteArray) {k j : Nat} (hk : k ≤ ws.length) (h : j < k) : (pcI ws k).getD j 0 = pvP (ws.getD j ByteArray.empty) := by
  unfold pcI
  have h2 : j < ws.length := by omega
  simp [List.getD_eq_getElem?_getD, List.getElem?_take, h, h2]
theorem pvP_rng (s : ByteArray) : 0 ≤ pvP s ∧ pvP s < 1000000000 := by
  unfold pvP
  split
  · rename_i h
    have h1 := pvS_rng s s.size h.2.2
    have h2 : (10 : Int) ^ s.size ≤ 1000000000 := by
      have := Nat.pow_le_pow_right (show 1 ≤ 10 by omega) h.1.2
      have e : ((10 ^ s.size : Nat) : Int) = (10 : Int) ^ s.size := by simp
      omega
    omega
  · omega
/-- May the pieces be laid? -/
def pcOk (n : Nat) (ws : List ByteArray) : Prop := ∀ j, j < ws.length → okI (ws.getD j ByteArray.empty) ∧ pvP (ws.getD j ByteArray.empty) < n
instance (n : Nat) (ws : List ByteArray) : Decidable (pcOk n ws) := by unfold pcOk; infer_instance
/-- The row after k links of a cycle. -/
def pcR (L xs : List Int) : Nat → List Int
  | 0 => L
  | k + 1 => (pcR L xs k).set (xs.getD k 0).toNat (xs.getD ((k + 1) % xs.length) 0)
theorem pcR_len (L xs : List Int) : ∀ k, (pcR L xs k).length = L.length
  | 0 => rfl
  | k + 1 => by unfold pcR; rw [List.length_set]; exact pcR_len L xs k
/-- The row after a cycle's text. -/
def pcF (L : List Int) (w : ByteArray) : List Int := if pcOk L.length (splitP w 32) then pcR L (pcI (splitP w 32) (splitP w 32).length) (splitP w 32).length else L
theorem splitP_prop (s : ByteArray) (c : Nat) : (splitP s c).length ≤ s.size + 1 ∧ ∀ j, ((splitP s c).getD j ByteArray.empty).size ≤ s.size := by
  refine ⟨(spS_le s c (s.size + 1)).2, fun j => ?_⟩
  by_cases hj : j < (splitP s c).length
  · refine spS_row s c (s.size + 1) _ ?_
    rw [List.getD_eq_getElem?_getD, List.getElem?_eq_getElem hj]; exact List.getElem_mem hj
  · rw [List.getD_eq_getElem?_getD, List.getElem?_eq_none (by omega)]; exact Nat.zero_le _
theorem parseCycle_ok (L : List Int) (w : ByteArray) (hl : L.length ≤ 20) (hw : w.size ≤ 1000) (h : Nat) : AC Try.prog 213 [.own h 0 1 L.length, .v (.string (w))] (Hp.emp.upd h (.cells L.length (cM iv 0 L))) (· == h) (postM h (.v (.bool (decide (pcOk L.length (splitP w 32))))) (.cells L.length (cM iv 0 (pcF L w)))) := by
  obtain ⟨hsl, hsr⟩ := splitP_prop w 32
  have hsp := splitText_ok w 32 (by omega)
  unfold pcF
  obtain ⟨ws, ews⟩ : ∃ ws, ws = splitP w 32 := ⟨_, rfl⟩
  rw [← ews] at hsl hsr hsp ⊢
  have hsr := Hold.mk hsr
  refine AC.any (h0 := 1000000) ?_ _ (fun _ => rfl) (fun _ => rfl) (fun _ => rfl) (fun _ => rfl)
  refine ac_of_awp (N := ⟨_, (· == 1000000), fun h hh => beq_eq_false_iff_ne.2 (Nat.ne_of_lt (Nat.lt_of_lt_of_le hh (by decide)))⟩) Try.func213 rfl (by kernel_rfl) Try.ntmps213 (by simp) ?_
  simp only [argsFr, List.zipIdx_cons, List.zipIdx_nil, go_sem]
  repeat' (first | refine awp_seqK fun K hK => ?_ | (refine awp_regionK 8830452893683 rfl ?_; simp only [List.map_cons, List.map_nil]; simp (maxSteps := 1000000) (dsimp := false) (implicitDefEqProofs := false) (disch := omega) only [wrap64, go_sem]) | (refine awp_regionQK 8830452893683 (by kernel_rfl) (by kernel_rfl) (by kernel_rfl) ?_; simp only [List.map_cons, List.map_nil]; simp (maxSteps := 1000000) (dsimp := false) (implicitDefEqProofs := false) (disch := omega) only [wrap64, go_sem]) | refine awp_block ?_ | (refine awp_skip ?_; simp only [go_sem]) | (refine awp_exit ?_; simp only [go_sem]) | (refine awp_ret ?_; try simp only [go_sem]) | (refine awp_condP rfl ?_; try simp only [go_sem]) | (refine BrP.mk (fun h => ?_) (fun h => ?_) <;> try simp (dsimp := false) (disch := omega) only [wrap64]) | (refine Br.mk (fun h => ?_) (fun h => ?_) <;> try simp (dsimp := false) (disch := omega) only [wrap64]) | refine Ob.mk (by first | omega | (intro _ _; rfl) | trivial | (intros; trivial) | assumption | (intro i hi; have h0 : i = 0 := (by omega); subst h0; first | rfl | trivial) | (intro i hi; have h0 : i = 0 ∨ i = 1 := (by omega); rcases h0 with rfl | rfl <;> rfl) | (intro i hi; have h0 : i = 0 ∨ i = 1 ∨ i = 2 := (by omega); rcases h0 with rfl | rfl | rfl <;> rfl)) ?_ | ((first | (refine cR (hac := hsp) (hK := ?_)) | (refine cQR (hac := hsp) (hK := ?_))); simp (maxSteps := 1000000) (dsimp := false) (implicitDefEqProofs := false) (disch := omega) only [wrap64, go_sem]) | apply_assumption -exfalso -symm)
  all_goals (first | (show endQ _ _ _ _ _ _ _; (repeat (rename (∀ (A : Fr) (H : Hp), AWP _ _ _ _ A H → _) => hK; clear hK)); (repeat (rename (Fr → Hp → Prop) => K; clear K))) | (show Exists _; (repeat (rename (∀ (A : Fr) (H : Hp), AWP _ _ _ _ A H → _) => hK; clear hK)); (repeat (rename (Fr → Hp → Prop) => K; clear K))) | skip)
  refine awp_loop (ι := Nat) (fun k => [(7, .v (.int .i64 ((k : Nat)))), (6, .own 13 0 1 k), (5, strs ws), (0, .own 1000000 0 1 L.length)]) (fun k => (Hp.emp.upd 1000000 (.cells L.length (cM iv 0 L))).upd 13 (.cells k (cM iv 0 (pcI ws k)))) (fun k => k ≤ ws.length ∧ Hold (∀ j, j < k → okI (ws.getD j ByteArray.empty) ∧ pvP (ws.getD j ByteArray.empty) < L.length)) (fun k => ws.length - k) 0 ⟨Nat.zero_le _, ⟨fun j h => absurd h (Nat.not_lt_zero _)⟩⟩ ?_ ?_
  · exact Sub.toL (by simp only [go_sem] <;> first | trivial | (simp only [Option.some.injEq, AV.v.injEq, AV.own.injEq, AV.list.injEq, Value.int.injEq, Value.bool.injEq, true_and, and_true]; first | omega | (simp; done)) | (simp; done) | (simp; omega)) (Hp.le_refl _)
  rintro k ⟨hk, hv⟩
  have hpl := pcI_len ws hk
  have hpi := Hold.mk (parseInt_ok (ws.getD k ByteArray.empty) (by have := hsr.h k; omega))
  have hpr := pvP_rng (ws.getD k ByteArray.empty)
  repeat' (first | refine awp_seqK fun K hK => ?_ | (refine awp_regionK 8830452893683 rfl ?_; simp only [List.map_cons, List.map_nil]; simp (maxSteps := 1000000) (dsimp := false) (implicitDefEqProofs := false) (disch := omega) only [wrap64, go_sem]) | (refine awp_regionQK 8830452893683 (by kernel_rfl) (by kernel_rfl) (by kernel_rfl) ?_; simp only [List.map_cons, List.map_nil]; simp (maxSteps := 1000000) (dsimp := false) (implicitDefEqProofs := false) (disch := omega) only [wrap64, go_sem]) | refine awp_block ?_ | (refine awp_skip ?_; simp only [go_sem]) | (refine awp_exit ?_; simp only [go_sem]) | (refine awp_ret ?_; try simp only [go_sem]) | (refine awp_condP rfl ?_; try simp only [go_sem]) | (refine BrP.mk (fun h => ?_) (fun h => ?_) <;> try simp (dsimp := false) (disch := omega) only [wrap64]) | (refine Br.mk (fun h => ?_) (fun h => ?_) <;> try simp (dsimp := false) (disch := omega) only [wrap64]) | refine Ob.mk (by first | omega | (intro _ _; rfl) | trivial | (intros; trivial) | assumption | (intro i hi; have h0 : i = 0 := (by omega); subst h0; first | rfl | trivial) | (intro i hi; have h0 : i = 0 ∨ i = 1 := (by omega); rcases h0 with rfl | rfl <;> rfl) | (intro i hi; have h0 : i = 0 ∨ i = 1 ∨ i = 2 := (by omega); rcases h0 with rfl | rfl | rfl <;> rfl)) ?_ | ((first | ((first | refine atF (f := 216) ?_ | refine atQ (f := 216) ?_); (refine cR (hac := hpi.h) (hK := ?_) (hs := piT_scrub _ _ _)))); simp (maxSteps := 1000000) (dsimp := false) (implicitDefEqProofs := false) (disch := omega) only [wrap64, go_sem]) | apply_assumption -exfalso -symm)
  all_goals (first | (show endQ _ _ _ _ _ _ _; (repeat (rename (∀ (A : Fr) (H : Hp), AWP _ _ _ _ A H → _) => hK; clear hK)); (repeat (rename (Fr → Hp → Prop) => K; clear K))) | (show Exists _; (repeat (rename (∀ (A : Fr) (H : Hp), AWP _ _ _ _ A H → _) => hK; clear hK)); (repeat (rename (Fr → Hp → Prop) => K; clear K))) | skip)
  · have hn : ¬ pcOk L.length ws := fun h => by have := (h k (by omega)).2; omega
    rw [if_neg hn, decide_eq_false hn]
    exact end_M rfl rfl (by simp [Hp.upd]) rfl
  · refine ⟨k + 1, ⟨by omega, ⟨fun j hj => ?_⟩⟩, by omega, ?_⟩
    · by_cases e : j = k
      · rw [e]; exact ⟨by assumption, by omega⟩
      · exact hv.h j (by omega)
    · have e0 := pcI_succ ws (k := k) (by omega)
      rw [e0]
      have e1 := apF_cM iv 0 (pcI ws k) [pvP (ws.getD k ByteArray.empty)]
      rw [hpl] at e1
      rw [e1]
      exact Sub.toL (by simp only [go_sem] <;> first | trivial | (simp only [Option.some.injEq, AV.v.injEq, AV.own.injEq, AV.list.injEq, Value.int.injEq, Value.bool.injEq, true_and, and_true]; first | omega | (simp; done)) | (simp; done) | (simp; omega)) (by (repeat' (first | exact Hp.le_emp _ | exact Hp.le_refl _ | refine Hp.le_upd ?_ ?_)); all_goals (first | rfl | (simp only [go_sem]; first | rfl | (refine cellsE ?_ ?_ <;> (simp)) | (simp))))
  · have hn : ¬ pcOk L.length ws := fun h => by have := (h k (by omega)).1; contradiction
    rw [if_neg hn, decide_eq_false hn]
    exact end_M rfl rfl (by simp [Hp.upd]) rfl
  · have ek : k = ws.length := by omega
    have hok : pcOk L.length ws := fun j hj => hv.h j (by omega)
    clear hpi hpr
    subst ek
    obtain ⟨xs, exs⟩ : ∃ xs, xs = pcI ws ws.length := ⟨_, rfl⟩
    rw [← exs]
    rw [← exs] at hpl
    have hxr : ∀ j, j < xs.length → 0 ≤ xs.getD j 0 ∧ xs.getD j 0 < L.length := fun j hj => by
      rw [exs, pcI_get ws (Nat.le_refl _) (by omega)]
      exact ⟨(pvP_rng _).1, (hok j (by omega)).2⟩
    have hxr := Hold.mk hxr
    rw [← hpl]
    refine awp_loop (ι := Nat) (fun j => [(10, .v (.int .i64 ((j : Nat)))), (6, .own 13 0 1 xs.length), (0, .own 1000000 0 1 L.length)]) (fun j => (Hp.emp.upd 1000000 (.cells L.length (cM iv 0 (pcR L xs j)))).upd 13 (.cells xs.length (cM iv 0 xs))) (fun j => j ≤ xs.length) (fun j => xs.length - j) 0 (Nat.zero_le _) (Sub.toL (by simp only [go_sem] <;> first | trivial | (simp only [Option.some.injEq, AV.v.injEq, AV.own.injEq, AV.list.injEq, Value.int.injEq, Value.bool.injEq, true_and, and_true]; first | omega | (simp; done)) | (simp; done) | (simp; omega)) (Hp.le_refl _)) ?_
    intro j hj
    have hrl := pcR_len L xs j
    have hsz : pcR L xs (j + 1) = (pcR L xs j).set (xs.getD j 0).toNat (xs.getD ((j + 1) % xs.length) 0) := rfl
    have hxj := fun h : j < xs.length => hxr.h j h
    have hmod : ((j : Nat) : Int) + 1 = ((j + 1 : Nat) : Int) := rfl
    have hmod2 : (((j : Nat) : Int) + 1).tmod ((xs.length : Nat) : Int) = (((j + 1) % xs.length : Nat) : Int) := rfl
    have hml : 0 < xs.length → (j + 1) % xs.length < xs.length := fun h => Nat.mod_lt _ h
    repeat' (first | (refine awp_regionEK (id := 13) 8830452893683 14 (by kernel_rfl) (by kernel_rfl) (by kernel_rfl) ?_; simp only [List.map_cons, List.map_nil, opsE, List.take_succ_cons, List.take_zero, List.drop_succ_cons, List.drop_zero]; simp (maxSteps := 1000000) (dsimp := false) (implicitDefEqProofs := false) (disch := omega) only [wrap64, go_sem, hmod2]) | refine awp_seqK fun K hK => ?_ | (refine awp_regionK 8830452893683 rfl ?_; simp only [List.map_cons, List.map_nil]; simp (maxSteps := 1000000) (dsimp := false) (implicitDefEqProofs := false) (disch := omega) only [wrap64, go_sem, hmod2]) | (refine awp_regionQK 8830452893683 (by kernel_rfl) (by kernel_rfl) (by kernel_rfl) ?_; simp only [List.map_cons, List.map_nil]; simp (maxSteps := 1000000) (dsimp := false) (implicitDefEqProofs := false) (disch := omega) only [wrap64, go_sem, hmod2]) | refine awp_block ?_ | (refine awp_skip ?_; simp only [go_sem, hmod2]) | (refine awp_exit ?_; simp only [go_sem, hmod2]) | (refine awp_ret ?_; try simp only [go_sem, hmod2]) | (refine awp_condP rfl ?_; try simp only [go_sem, hmod2]) | (refine BrP.mk (fun h => ?_) (fun h => ?_) <;> try simp (dsimp := false) (disch := omega) only [wrap64]) | (refine Br.mk (fun h => ?_) (fun h => ?_) <;> try simp (dsimp := false) (disch := omega) only [wrap64]) | refine Ob.mk (by first | omega | (intro _ _; rfl) | trivial | (intros; trivial) | assumption | (intro i hi; have h0 : i = 0 := (by omega); subst h0; first | rfl | trivial) | (intro i hi; have h0 : i = 0 ∨ i = 1 := (by omega); rcases h0 with rfl | rfl <;> rfl) | (intro i hi; have h0 : i = 0 ∨ i = 1 ∨ i = 2 := (by omega); rcases h0 with rfl | rfl | rfl <;> rfl)) ?_ | apply_assumption -exfalso -symm)
    all_goals (first | (show endQ _ _ _ _ _ _ _; (repeat (rename (∀ (A : Fr) (H : Hp), AWP _ _ _ _ A H → _) => hK; clear hK)); (repeat (rename (Fr → Hp → Prop) => K; clear K))) | (show Exists _; (repeat (rename (∀ (A : Fr) (H : Hp), AWP _ _ _ _ A H → _) => hK; clear hK)); (repeat (rename (Fr → Hp → Prop) => K; clear K))) | skip)
    · refine ⟨j + 1, by omega, by omega, ?_⟩
      rw [hsz]
      exact Sub.toL (by simp only [go_sem] <;> first | trivial | (simp only [Option.some.injEq, AV.v.injEq, AV.own.injEq, AV.list.injEq, Value.int.injEq, Value.bool.injEq, true_and, and_true]; first | omega | (simp; done)) | (simp; done) | (simp; omega)) (by (repeat' (first | exact Hp.le_emp _ | exact Hp.le_refl _ | refine Hp.le_upd ?_ ?_)); all_goals (first | rfl | (simp only [go_sem]; first | rfl | (refine cellsE ?_ ?_ <;> (simp)) | (simp))))
    · have ej : j = xs.length := by omega
      rw [if_pos hok, decide_eq_true hok]
      refine end_M rfl rfl ?_ rfl
      rw [ej, ← exs, hpl]
      simp [Hp.upd]
end Go.Proofs.Ytngpacdhpblpbaa
end
/- Cycles of the reference: ParseCycles (what it hands back: a short row). -/
section
namespace Go.Proofs.Ytngpacdhpblpbaa
open Go.Av
set_option linter.unusedSimpArgs false
set_option linter.unusedVariables false
attribute [local irreducible] AWP CallG Ob Br BrP Go.Av.Sub endQ AOps OpV AC thenA blkA opsVC opVC withA withArgs opsQ opQ CallQ withA2 withArgs2
open Go.Pm (idn)
theorem pcF_len (L : List Int) (w : ByteArray) : (pcF L w).length = L.length := by
  unfold pcF; split
  · exact pcR_len _ _ _
  · rfl
/-- What ParseCycles hands back. -/
def pcQ (r : AV) : Prop := ∃ (xs : List Int) (b : Bool), xs.length ≤ 20 ∧ r = .tup 2 (vecF [ints xs, .v (.bool (b))])
set_option maxHeartbeats 1000000 in
theorem parseCycles_ok (n : Int) (s : ByteArray) (hs : s.size ≤ 1000) : AC Try.prog 205 [.v (.int .i64 (n)), .v (.string (s))] Hp.emp (fun _ => false) (postX pcQ) := by
  have hex : ∀ a b, (s.extract a b).size ≤ s.size := fun a b => by rw [ByteArray.size_extract]; omega
  have hex := Hold.mk hex
  have hid := Hold.mk (fun h : 1 ≤ n ∧ n ≤ 20 => by
    have := specIdentity_ok n.toNat (by omega) 38
    rwa [show ((n.toNat : Nat) : Int) = n by omega, ← idn_marks] at this : 1 ≤ n ∧ n ≤ 20 → AC Try.prog 81 [.v (.int .i64 (n))] Hp.emp (fun _ => false) (retI 38 (idn n.toNat)))
  have hil := Go.Pm.idn_length n.toNat
  obtain ⟨t, et⟩ : ∃ t, t = s.extract (Int.toNat 1) (((s.size : Nat) : Int) - 1).toNat := ⟨_, rfl⟩
  have htl : t.size ≤ s.size := by rw [et]; exact hex.h _ _
  have hsp := splitText_ok t 41 (by omega)
  obtain ⟨hpl, hpr⟩ := splitP_prop t 41
  obtain ⟨ps, eps⟩ : ∃ ps, ps = splitP t 41 := ⟨_, rfl⟩
  rw [← eps] at hsp hpl hpr
  have hpr := Hold.mk hpr
  refine ac_of_awp (N := ⟨_, fun _ => false, fun _ _ => rfl⟩) Try.func205 rfl (by kernel_rfl) Try.ntmps205 (by simp) ?_
  simp only [argsFr, List.zipIdx_cons, List.zipIdx_nil, go_sem]
  repeat' (first | refine awp_seqK fun K hK => ?_ | (refine awp_regionK 1247001056807904283198451 rfl ?_; simp only [List.map_cons, List.map_nil]; simp (maxSteps := 1000000) (dsimp := false) (implicitDefEqProofs := false) (disch := omega) only [wrap64, go_sem, Int.toNat_zero, et.symm]) | (refine awp_regionQK 1247001056807904283198451 (by kernel_rfl) (by kernel_rfl) (by kernel_rfl) ?_; simp only [List.map_cons, List.map_nil]; simp (maxSteps := 1000000) (dsimp := false) (implicitDefEqProofs := false) (disch := omega) only [wrap64, go_sem, Int.toNat_zero, et.symm]) | refine awp_block ?_ | (refine awp_skip ?_; simp only [go_sem, Int.toNat_zero, et.symm]) | (refine awp_exit ?_; simp only [go_sem, Int.toNat_zero, et.symm]) | (refine awp_ret ?_; try simp only [go_sem, Int.toNat_zero, et.symm]) | (refine awp_condP rfl ?_; try simp only [go_sem, Int.toNat_zero, et.symm]) | (refine BrP.mk (fun h => ?_) (fun h => ?_) <;> try simp (dsimp := false) (disch := omega) only [wrap64]) | (refine Br.mk (fun h => ?_) (fun h => ?_) <;> try simp (dsimp := false) (disch := omega) only [wrap64]) | refine Ob.mk (by first | omega | (intro _ _; rfl) | trivial | (intros; trivial) | assumption | (intro i hi; have h0 : i = 0 := (by omega); subst h0; first | rfl | trivial) | (intro i hi; have h0 : i = 0 ∨ i = 1 := (by omega); rcases h0 with rfl | rfl <;> rfl) | (intro i hi; have h0 : i = 0 ∨ i = 1 ∨ i = 2 := (by omega); rcases h0 with rfl | rfl | rfl <;> rfl)) ?_ | ((first | ((first | refine atF (f := 80) ?_ | refine atQ (f := 80) ?_); (first | (refine cV (hac := inRange_ok _ _ _) (hK := ?_)) | (refine cQV (hac := inRange_ok _ _ _) (hK := ?_)))) | (refine cI (hac := hid.h (by omega)) (hK := ?_)) | (refine cQI (hac := hid.h (by omega)) (hK := ?_)) | (refine cR (hac := hsp) (hK := ?_)) | (refine cQR (hac := hsp) (hK := ?_))); simp (maxSteps := 1000000) (dsimp := false) (implicitDefEqProofs := false) (disch := omega) only [wrap64, go_sem, Int.toNat_zero, et.symm]) | apply_assumption -exfalso -symm)
  all_goals (first | (show endQ _ _ _ _ _ _ _; (repeat (rename (∀ (A : Fr) (H : Hp), AWP _ _ _ _ A H → _) => hK; clear hK)); (repeat (rename (Fr → Hp → Prop) => K; clear K))) | (show Exists _; (repeat (rename (∀ (A : Fr) (H : Hp), AWP _ _ _ _ A H → _) => hK; clear hK)); (repeat (rename (Fr → Hp → Prop) => K; clear K))) | skip)
  iterate 2
    · exact end_X2 rfl (by decide) rfl rfl (fits_I rfl trivial rfl rfl) (.refl _) ⟨[], false, Nat.zero_le _, rfl⟩
  · refine awp_loop (ι := Nat × List Int) (fun z => [(8, .v (.int .i64 ((z.1 : Nat)))), (7, strs ps), (6, .own 38 0 1 z.2.length), (1, .v (.string (s)))]) (fun z => Hp.emp.upd 38 (.cells z.2.length (cM iv 0 z.2))) (fun z => z.1 ≤ ps.length ∧ z.2.length ≤ 20) (fun z => ps.length - z.1) (0, idn n.toNat) ⟨Nat.zero_le _, by dsimp only; omega⟩ (Sub.toL (by simp only [go_sem] <;> first | trivial | (simp only [Option.some.injEq, AV.v.injEq, AV.own.injEq, AV.list.injEq, Value.int.injEq, Value.bool.injEq, true_and, and_true]; first | omega | (simp; done)) | (simp; done) | (simp; omega)) (Hp.le_refl _)) ?_
    rintro ⟨k, L⟩ ⟨hk, hL⟩
    dsimp only at hk hL ⊢
    have hp1 := hpr.h k
    obtain ⟨w, ew⟩ : ∃ w, w = ps.getD k ByteArray.empty := ⟨_, rfl⟩
    rw [← ew] at hp1
    obtain ⟨v, evv⟩ : ∃ v, v = w.extract (Int.toNat 1) w.size := ⟨_, rfl⟩
    have hp2 : v.size ≤ 1000 := by rw [evv, ByteArray.size_extract]; omega
    have hl1 := pcF_len L w
    have hl2 := pcF_len L v
    repeat' (first | refine awp_seqK fun K hK => ?_ | (refine awp_regionK 1247001056807904283198451 rfl ?_; simp only [List.map_cons, List.map_nil]; simp (maxSteps := 1000000) (dsimp := false) (implicitDefEqProofs := false) (disch := omega) only [wrap64, go_sem, Int.toNat_zero, ew.symm, evv.symm]) | (refine awp_regionQK 1247001056807904283198451 (by kernel_rfl) (by kernel_rfl) (by kernel_rfl) ?_; simp only [List.map_cons, List.map_nil]; simp (maxSteps := 1000000) (dsimp := false) (implicitDefEqProofs := false) (disch := omega) only [wrap64, go_sem, Int.toNat_zero, ew.symm, evv.symm]) | refine awp_block ?_ | (refine awp_skip ?_; simp only [go_sem, Int.toNat_zero, ew.symm, evv.symm]) | (refine awp_exit ?_; simp only [go_sem, Int.toNat_zero, ew.symm, evv.symm]) | (refine awp_ret ?_; try simp only [go_sem, Int.toNat_zero, ew.symm, evv.symm]) | (refine awp_condP rfl ?_; try simp only [go_sem, Int.toNat_zero, ew.symm, evv.symm]) | (refine BrP.mk (fun h => ?_) (fun h => ?_) <;> try simp (dsimp := false) (disch := omega) only [wrap64]) | (refine Br.mk (fun h => ?_) (fun h => ?_) <;> try simp (dsimp := false) (disch := omega) only [wrap64]) | refine Ob.mk (by first | omega | (intro _ _; rfl) | trivial | (intros; trivial) | assumption | (intro i hi; have h0 : i = 0 := (by omega); subst h0; first | rfl | trivial) | (intro i hi; have h0 : i = 0 ∨ i = 1 := (by omega); rcases h0 with rfl | rfl <;> rfl) | (intro i hi; have h0 : i = 0 ∨ i = 1 ∨ i = 2 := (by omega); rcases h0 with rfl | rfl | rfl <;> rfl)) ?_ | ((first | ((first | refine atF (f := 213) ?_ | refine atQ (f := 213) ?_); (first | (refine cM' (hac := parseCycle_ok L w hL (by omega) 38) (hK := ?_)))) | ((first | refine atF (f := 213) ?_ | refine atQ (f := 213) ?_); (first | (refine cM' (hac := parseCycle_ok L v hL hp2 38) (hK := ?_)))) | ((first | refine atF (f := 214) ?_ | refine atQ (f := 214) ?_); (refine cV (hfit := .cons (fits_I rfl trivial rfl rfl) .nil) (hac := formatCycles_ok L) (hK := ?_)))); simp (maxSteps := 1000000) (dsimp := false) (implicitDefEqProofs := false) (disch := omega) only [wrap64, go_sem, Int.toNat_zero, ew.symm, evv.symm]) | apply_assumption -exfalso -symm)
    all_goals (first | (show endQ _ _ _ _ _ _ _; (repeat (rename (∀ (A : Fr) (H : Hp), AWP _ _ _ _ A H → _) => hK; clear hK)); (repeat (rename (Fr → Hp → Prop) => K; clear K))) | (show Exists _; (repeat (rename (∀ (A : Fr) (H : Hp), AWP _ _ _ _ A H → _) => hK; clear hK)); (repeat (rename (Fr → Hp → Prop) => K; clear K))) | skip)
    all_goals first
      | exact end_X2 rfl (by decide) rfl rfl (fits_I (xs := []) rfl trivial rfl rfl) (.refl _) ⟨[], false, Nat.zero_le _, rfl⟩
      | exact end_X2 rfl (by decide) rfl rfl (fits_I (xs := L) rfl trivial rfl rfl) (.refl _) ⟨L, true, hL, rfl⟩
      | exact ⟨(k + 1, pcF L w), ⟨by dsimp only; omega, by dsimp only; omega⟩, by dsimp only; omega, by dsimp only; rw [hl1]; exact Sub.toL (by simp only [go_sem] <;> first | trivial | (simp only [Option.some.injEq, AV.v.injEq, AV.own.injEq, AV.list.injEq, Value.int.injEq, Value.bool.injEq, true_and, and_true]; first | omega | (simp; done)) | (simp; done) | (simp; omega)) (Hp.le_refl _)⟩
      | exact ⟨(k + 1, pcF L v), ⟨by dsimp only; omega, by dsimp only; omega⟩, by dsimp only; omega, by dsimp only; rw [hl2]; exact Sub.toL (by simp only [go_sem] <;> first | trivial | (simp only [Option.some.injEq, AV.v.injEq, AV.own.injEq, AV.list.injEq, Value.int.injEq, Value.bool.injEq, true_and, and_true]; first | omega | (simp; done)) | (simp; done) | (simp; omega)) (Hp.le_refl _)⟩
  all_goals exact end_X2 rfl (by decide) rfl rfl (fits_I rfl trivial rfl rfl) (.refl _) ⟨[], false, Nat.zero_le _, rfl⟩
end Go.Proofs.Ytngpacdhpblpbaa
end
/- Drawn puzzles: puzzleOf, KnownPuzzle. -/
section
namespace Go.Proofs.Ytngpacdhpblpbaa
open Go.Av
set_option linter.unusedSimpArgs false
set_option linter.unusedVariables false
attribute [local irreducible] AWP CallG Ob Br BrP Go.Av.Sub endQ AOps OpV AC thenA blkA opsVC opVC withA withArgs opsQ opQ CallQ withA2 withArgs2
/-- A puzzle with short names. -/
def pzQ (p : Pz) : Prop := r64 p.n ∧ p.s.size ≤ 1000 ∧ p.m.length ≤ 8
theorem pcQ_scrub : ∀ r, pcQ r → ∀ p, r.scrub p = r := by
  rintro _ ⟨xs, b, _, rfl⟩ p
  simp only [scrub_tup, scF_vecF, List.map_cons, List.map_nil]; rfl
/-- The cells of a puzzle in the making. -/
def pzC (n : Int) (nm : ByteArray) : List (List Int) → Nat → AV
  | [] => vecF [iv n, sv nm, .v (.slice none 0 0)]
  | x :: xs => vecF [iv n, sv nm, .own 33 0 1 (xs.length + 1)]
/-- What is held while a puzzle is made. -/
def pzH (n : Int) (nm : ByteArray) : List (List Int) → Hp
  | [] => (Hp.emp.upd 4 (.cells 3 (vecF [iv 0, sv ⟨#[]⟩, .v (.slice none 0 0)]))).upd 5 (.cells 3 (pzC n nm []))
  | x :: xs => ((Hp.emp.upd 4 (.cells 3 (vecF [iv 0, sv ⟨#[]⟩, .v (.slice none 0 0)]))).upd 5 (.cells 3 (pzC n nm (x :: xs)))).upd 33 (.cells (xs.length + 1) (cM ints [] (x :: xs)))
/-- A puzzle whose moves are a row of our own of frozen rows. -/
def pzL (e : Nat) (r : AV) (xss : List (List Int)) : Prop := ∃ p : Pz, pzQ p ∧ p.m = xss ∧ r = pzo p e
theorem pzL_scrub (e : Nat) : ∀ r xss, pzL e r xss → ∀ q, q e = false → r.scrub q = r := by
  rintro _ _ ⟨p, _, _, rfl⟩ q h
  exact pzo_scrub p e q h
theorem puzzleOf_ok (n : Int) (ws : List ByteArray) (b : Bool) (f : Nat → AV) (hf : ∀ i, i < ws.length → f i = .v (.string (ws.getD i ByteArray.empty))) (hn : r64 n) (hl : 1 ≤ ws.length ∧ ws.length ≤ 8) (hw : ∀ j, (ws.getD j ByteArray.empty).size ≤ 1000) : AC Try.prog 188 [.v (.int .i64 (n)), .list b 1 ws.length f] Hp.emp (fun _ => false) (postLX 33 (pzL 33)) := by
  have hw := Hold.mk hw
  have h8 : (⟨#[65, 66, 67, 68, 69, 70, 71, 72]⟩ : ByteArray).size = 8 := rfl
  obtain ⟨nm, enm⟩ : ∃ nm, nm = (⟨#[65, 66, 67, 68, 69, 70, 71, 72]⟩ : ByteArray).extract 0 ws.length := ⟨_, rfl⟩
  have hnm : nm.size ≤ 8 := by rw [enm, ByteArray.size_extract]; omega
  refine ac_of_awp (N := ⟨_, fun _ => false, fun _ _ => rfl⟩) Try.func188 rfl (by kernel_rfl) Try.ntmps188 (by simp) ?_
  simp only [argsFr, List.zipIdx_cons, List.zipIdx_nil, go_sem]
  repeat' (first | refine awp_seqK fun K hK => ?_ | (refine awp_regionK 131315 rfl ?_; simp only [List.map_cons, List.map_nil]; simp (maxSteps := 1000000) (dsimp := false) (implicitDefEqProofs := false) (disch := omega) only [wrap64, go_sem, h8, enm.symm]) | (refine awp_regionQK 131315 (by kernel_rfl) (by kernel_rfl) (by kernel_rfl) ?_; simp only [List.map_cons, List.map_nil]; simp (maxSteps := 1000000) (dsimp := false) (implicitDefEqProofs := false) (disch := omega) only [wrap64, go_sem, h8, enm.symm]) | refine awp_block ?_ | (refine awp_skip ?_; simp only [go_sem, h8, enm.symm]) | (refine awp_exit ?_; simp only [go_sem, h8, enm.symm]) | (refine awp_ret ?_; try simp only [go_sem, h8, enm.symm]) | (refine awp_condP rfl ?_; try simp only [go_sem, h8, enm.symm]) | (refine BrP.mk (fun h => ?_) (fun h => ?_) <;> try simp (dsimp := false) (disch := omega) only [wrap64]) | (refine Br.mk (fun h => ?_) (fun h => ?_) <;> try simp (dsimp := false) (disch := omega) only [wrap64]) | refine Ob.mk (by first | omega | (intro _ _; rfl) | trivial | (intros; trivial) | assumption | (intro i hi; have h0 : i = 0 := (by omega); subst h0; first | rfl | trivial) | (intro i hi; have h0 : i = 0 ∨ i = 1 := (by omega); rcases h0 with rfl | rfl <;> rfl) | (intro i hi; have h0 : i = 0 ∨ i = 1 ∨ i = 2 := (by omega); rcases h0 with rfl | rfl | rfl <;> rfl)) ?_ | apply_assumption -exfalso -symm)
  all_goals (first | (show endQ _ _ _ _ _ _ _; (repeat (rename (∀ (A : Fr) (H : Hp), AWP _ _ _ _ A H → _) => hK; clear hK)); (repeat (rename (Fr → Hp → Prop) => K; clear K))) | (show Exists _; (repeat (rename (∀ (A : Fr) (H : Hp), AWP _ _ _ _ A H → _) => hK; clear hK)); (repeat (rename (Fr → Hp → Prop) => K; clear K))) | skip)
  refine awp_loop (ι := List (List Int)) (fun xs => [(6, .v (.int .i64 ((xs.length : Nat)))), (5, .ref 5 0), (4, .ref 4 0), (0, .v (.int .i64 (n))), (1, .list b 1 ws.length f)]) (pzH n nm) (fun xs => xs.length ≤ ws.length) (fun xs => ws.length - xs.length) [] (Nat.zero_le _) ?_ ?_
  · refine Sub.toFF (fun _ => False) (Fr.fit_cons rfl (.refl _) (Fr.fit_cons rfl (.refl _) (Fr.fit_cons rfl (.refl _) (Fr.fit_cons rfl (.refl _) (Fr.fit_cons rfl (.refl _) (Fr.fit_nil _)))))) ?_
    refine leF_upd rfl (bfE rfl (fun i hi => ?_)) (leF_upd rfl (bfE rfl (fun i hi => ?_)) leF_emp id) id
    · match i, hi with
      | 0, _ => rfl
      | 1, _ => rfl
      | 2, _ => rfl
    · match i, hi with
      | 0, _ => rfl
      | 1, _ => rfl
      | 2, _ => rfl
  intro xs hk
  cases xs with
  | nil =>
    have hp := Hold.mk (parseCycles_ok n (ws.getD 0 ByteArray.empty) (hw.h _))
    have hfk := hf 0
    unfold pzH pzC
    repeat' (first | ((first | refine atF (f := 205) ?_ | refine atQ (f := 205) ?_); (refine callX hp.h pcQ_scrub (fun r hq => ?_); obtain ⟨row, bb, hrow, rfl⟩ := hq) <;> simp (maxSteps := 1000000) (dsimp := false) (implicitDefEqProofs := false) (disch := omega) only [wrap64, go_sem, hfk]) | refine awp_seqK fun K hK => ?_ | (refine awp_regionK 131315 rfl ?_; simp only [List.map_cons, List.map_nil]; simp (maxSteps := 1000000) (dsimp := false) (implicitDefEqProofs := false) (disch := omega) only [wrap64, go_sem, hfk]) | (refine awp_regionQK 131315 (by kernel_rfl) (by kernel_rfl) (by kernel_rfl) ?_; simp only [List.map_cons, List.map_nil]; simp (maxSteps := 1000000) (dsimp := false) (implicitDefEqProofs := false) (disch := omega) only [wrap64, go_sem, hfk]) | refine awp_block ?_ | (refine awp_skip ?_; simp only [go_sem, hfk]) | (refine awp_exit ?_; simp only [go_sem, hfk]) | (refine awp_ret ?_; try simp only [go_sem, hfk]) | (refine awp_condP rfl ?_; try simp only [go_sem, hfk]) | (refine BrP.mk (fun h => ?_) (fun h => ?_) <;> try simp (dsimp := false) (disch := omega) only [wrap64]) | (refine Br.mk (fun h => ?_) (fun h => ?_) <;> try simp (dsimp := false) (disch := omega) only [wrap64]) | refine Ob.mk (by first | omega | (intro _ _; rfl) | trivial | (intros; trivial) | assumption | (intro i hi; have h0 : i = 0 := (by omega); subst h0; first | rfl | trivial) | (intro i hi; have h0 : i = 0 ∨ i = 1 := (by omega); rcases h0 with rfl | rfl <;> rfl) | (intro i hi; have h0 : i = 0 ∨ i = 1 ∨ i = 2 := (by omega); rcases h0 with rfl | rfl | rfl <;> rfl)) ?_ | apply_assumption -exfalso -symm)
    all_goals (first | (show endQ _ _ _ _ _ _ _; (repeat (rename (∀ (A : Fr) (H : Hp), AWP _ _ _ _ A H → _) => hK; clear hK)); (repeat (rename (Fr → Hp → Prop) => K; clear K))) | (show Exists _; (repeat (rename (∀ (A : Fr) (H : Hp), AWP _ _ _ _ A H → _) => hK; clear hK)); (repeat (rename (Fr → Hp → Prop) => K; clear K))) | skip)
    · refine ⟨[row], by simp only [List.length_singleton]; omega, by simp only [List.length_singleton, List.length_nil]; omega, ?_⟩
      refine Sub.toFF (fun _ => False) (Fr.fit_cons rfl (.refl _) (Fr.fit_cons rfl (.refl _) (Fr.fit_cons rfl (.refl _) (Fr.fit_cons rfl (.refl _) (Fr.fit_cons rfl (.refl _) (Fr.fit_nil _)))))) ?_
      refine leF_upd rfl (bfE rfl (fun i hi => ?_)) (leF_upd rfl (bfE rfl (fun i hi => ?_)) (leF_upd rfl (bfE rfl (fun i hi => rfl)) leF_emp id) id) id
      · match i, hi with
        | 0, _ => rfl
      · match i, hi with
        | 0, _ => rfl
        | 1, _ => rfl
        | 2, _ => rfl
    · omega
  | cons x xs =>
    have hp := Hold.mk (parseCycles_ok n (ws.getD (xs.length + 1) ByteArray.empty) (hw.h _))
    have hfk := hf (xs.length + 1)
    unfold pzH pzC
    repeat' (first | ((first | refine atF (f := 205) ?_ | refine atQ (f := 205) ?_); (refine callX hp.h pcQ_scrub (fun r hq => ?_); obtain ⟨row, bb, hrow, rfl⟩ := hq) <;> simp (maxSteps := 1000000) (dsimp := false) (implicitDefEqProofs := false) (disch := omega) only [wrap64, go_sem, hfk]) | refine awp_seqK fun K hK => ?_ | (refine awp_regionK 131315 rfl ?_; simp only [List.map_cons, List.map_nil]; simp (maxSteps := 1000000) (dsimp := false) (implicitDefEqProofs := false) (disch := omega) only [wrap64, go_sem, hfk]) | (refine awp_regionQK 131315 (by kernel_rfl) (by kernel_rfl) (by kernel_rfl) ?_; simp only [List.map_cons, List.map_nil]; simp (maxSteps := 1000000) (dsimp := false) (implicitDefEqProofs := false) (disch := omega) only [wrap64, go_sem, hfk]) | refine awp_block ?_ | (refine awp_skip ?_; simp only [go_sem, hfk]) | (refine awp_exit ?_; simp only [go_sem, hfk]) | (refine awp_ret ?_; try simp only [go_sem, hfk]) | (refine awp_condP rfl ?_; try simp only [go_sem, hfk]) | (refine BrP.mk (fun h => ?_) (fun h => ?_) <;> try simp (dsimp := false) (disch := omega) only [wrap64]) | (refine Br.mk (fun h => ?_) (fun h => ?_) <;> try simp (dsimp := false) (disch := omega) only [wrap64]) | refine Ob.mk (by first | omega | (intro _ _; rfl) | trivial | (intros; trivial) | assumption | (intro i hi; have h0 : i = 0 := (by omega); subst h0; first | rfl | trivial) | (intro i hi; have h0 : i = 0 ∨ i = 1 := (by omega); rcases h0 with rfl | rfl <;> rfl) | (intro i hi; have h0 : i = 0 ∨ i = 1 ∨ i = 2 := (by omega); rcases h0 with rfl | rfl | rfl <;> rfl)) ?_ | apply_assumption -exfalso -symm)
    all_goals (first | (show endQ _ _ _ _ _ _ _; (repeat (rename (∀ (A : Fr) (H : Hp), AWP _ _ _ _ A H → _) => hK; clear hK)); (repeat (rename (Fr → Hp → Prop) => K; clear K))) | (show Exists _; (repeat (rename (∀ (A : Fr) (H : Hp), AWP _ _ _ _ A H → _) => hK; clear hK)); (repeat (rename (Fr → Hp → Prop) => K; clear K))) | skip)
    · refine ⟨(x :: xs) ++ [row], by simp only [List.length_append, List.length_cons, List.length_nil]; omega, by simp only [List.length_append, List.length_cons, List.length_nil]; omega, ?_⟩
      have el : (xs ++ [row]).length = xs.length + 1 := by simp
      simp only [List.cons_append, List.length_cons, el]
      refine Sub.toFF (fun _ => False) (Fr.fit_cons rfl (.refl _) (Fr.fit_cons rfl (.refl _) (Fr.fit_cons rfl (.refl _) (Fr.fit_cons rfl (.refl _) (Fr.fit_cons rfl (.refl _) (Fr.fit_nil _)))))) ?_
      refine leF_upd rfl (bfE rfl (fun i hi => ?_)) (leF_upd rfl (bfE rfl (fun i hi => ?_)) (leF_upd rfl (bfE rfl (fun i hi => rfl)) leF_emp id) id) id
      · have := ap_ints (x :: xs) row i (by simp only [List.length_cons]; omega)
        simp only [List.length_cons, List.cons_append] at this
        exact this
      · match i, hi with
        | 0, _ => rfl
        | 1, _ => rfl
        | 2, _ => rfl
    · exact end_postC rfl rfl (by simp only [go_sem]; rfl) rfl (fun i hi => rfl) (H' := Hp.emp.upd 33 (.cells (xs.length + 1) (cM ints [] (x :: xs)))) (leF_upd rfl (.refl _ _ _) leF_emp id) rfl ⟨x :: xs, ⟨⟨n, nm, x :: xs⟩, ⟨hn, by show nm.size ≤ 1000; omega, by have h9 : (x :: xs).length = xs.length + 1 := rfl; show xs.length + 1 ≤ 8; omega⟩, rfl, rfl⟩, rfl⟩
theorem po2 (n : Int) (a b : ByteArray) (z : Nat → AV) (hn : r64 n) (ha : a.size ≤ 1000) (hb : b.size ≤ 1000) : AC Try.prog 188 [.v (.int .i64 (n)), .list true 1 2 (setF (setF z 0 (.v (.string (a)))) 1 (.v (.string (b))))] Hp.emp (fun _ => false) (postLX 33 (pzL 33)) :=
  puzzleOf_ok n [a, b] true _ (fun i hi => by
    match i, hi with
    | 0, _ => rfl
    | 1, _ => rfl) hn (by simp) (fun j => by
    match j with
    | 0 => exact ha
    | 1 => exact hb
    | j + 2 => exact Nat.zero_le _)
theorem po3 (n : Int) (a b c : ByteArray) (z : Nat → AV) (hn : r64 n) (ha : a.size ≤ 1000) (hb : b.size ≤ 1000) (hc : c.size ≤ 1000) : AC Try.prog 188 [.v (.int .i64 (n)), .list true 1 3 (setF (setF (setF z 0 (.v (.string (a)))) 1 (.v (.string (b)))) 2 (.v (.string (c))))] Hp.emp (fun _ => false) (postLX 33 (pzL 33)) :=
  puzzleOf_ok n [a, b, c] true _ (fun i hi => by
    match i, hi with
    | 0, _ => rfl
    | 1, _ => rfl
    | 2, _ => rfl) hn (by simp) (fun j => by
    match j with
    | 0 => exact ha
    | 1 => exact hb
    | 2 => exact hc
    | j + 3 => exact Nat.zero_le _)
theorem po4 (n : Int) (a b c d : ByteArray) (z : Nat → AV) (hn : r64 n) (ha : a.size ≤ 1000) (hb : b.size ≤ 1000) (hc : c.size ≤ 1000) (hd : d.size ≤ 1000) : AC Try.prog 188 [.v (.int .i64 (n)), .list true 1 4 (setF (setF (setF (setF z 0 (.v (.string (a)))) 1 (.v (.string (b)))) 2 (.v (.string (c)))) 3 (.v (.string (d))))] Hp.emp (fun _ => false) (postLX 33 (pzL 33)) :=
  puzzleOf_ok n [a, b, c, d] true _ (fun i hi => by
    match i, hi with
    | 0, _ => rfl
    | 1, _ => rfl
    | 2, _ => rfl
    | 3, _ => rfl) hn (by simp) (fun j => by
    match j with
    | 0 => exact ha
    | 1 => exact hb
    | 2 => exact hc
    | 3 => exact hd
    | j + 4 => exact Nat.zero_le _)
/-- What KnownPuzzle hands back. -/
def kpL (e : Nat) (r : AV) (xss : List (List Int)) : Prop := ∃ p : Pz, pzQ p ∧ p.m = xss ∧ r = .tup 2 (vecF [pzo p e, .v (.bool (true))])
theorem kpL_scrub (e : Nat) : ∀ r xss, kpL e r xss → ∀ q, q e = false → r.scrub q = r := by
  rintro _ _ ⟨p, _, _, rfl⟩ q h
  have := pzo_scrub p e q h
  simp only [scrub_tup, scF_vecF, List.map_cons, List.map_nil, this]; rfl
theorem knownPuzzle33_ok (i : Int) (hi : 0 ≤ i ∧ i ≤ 5) : AC Try.prog 167 [.v (.int .i64 (i))] Hp.emp (fun _ => false) (postLX 33 (kpL 33)) := by
  refine ac_of_awp (N := ⟨_, fun _ => false, fun _ _ => rfl⟩) Try.func167 rfl (by kernel_rfl) Try.ntmps167 (by simp) ?_
  simp only [argsFr, List.zipIdx_cons, List.zipIdx_nil, go_sem]
  repeat' (first | (refine Ob.mk (by intro i hi; have h0 : i = 0 ∨ i = 1 ∨ i = 2 ∨ i = 3 := (by omega); rcases h0 with rfl | rfl | rfl | rfl <;> (first | exact trivial | rfl | (exfalso; omega))) ?_) | ((first | refine atF (f := 188) ?_ | refine atQ (f := 188) ?_); ((first | (refine callLX (po2 _ _ _ _ (by unfold r64; omega) (by decide) (by decide)) (pzL_scrub 33) rfl (fun r xss hq => ?_)) | (refine callLX (po3 _ _ _ _ _ (by unfold r64; omega) (by decide) (by decide) (by decide)) (pzL_scrub 33) rfl (fun r xss hq => ?_)) | (refine callLX (po4 _ _ _ _ _ _ (by unfold r64; omega) (by decide) (by decide) (by decide) (by decide)) (pzL_scrub 33) rfl (fun r xss hq => ?_))); obtain ⟨p, hp, rfl, rfl⟩ := hq; unfold pzo) <;> simp (maxSteps := 1000000) (dsimp := false) (implicitDefEqProofs := false) (disch := omega) only [wrap64, go_sem]) | (refine awp_regionJK (id := 3) 35791421 1 (by kernel_rfl) (by kernel_rfl) ?_; simp only [List.map_cons, List.map_nil, opsJ_succ, opsJ_0]; simp (maxSteps := 1000000) (dsimp := false) (implicitDefEqProofs := false) (disch := omega) only [wrap64, go_sem]) | (refine awp_regionJK (id := 5) 35791421 1 (by kernel_rfl) (by kernel_rfl) ?_; simp only [List.map_cons, List.map_nil, opsJ_succ, opsJ_0]; simp (maxSteps := 1000000) (dsimp := false) (implicitDefEqProofs := false) (disch := omega) only [wrap64, go_sem]) | (refine awp_regionJK (id := 7) 35791421 1 (by kernel_rfl) (by kernel_rfl) ?_; simp only [List.map_cons, List.map_nil, opsJ_succ, opsJ_0]; simp (maxSteps := 1000000) (dsimp := false) (implicitDefEqProofs := false) (disch := omega) only [wrap64, go_sem]) | (refine awp_regionJK (id := 9) 35791421 1 (by kernel_rfl) (by kernel_rfl) ?_; simp only [List.map_cons, List.map_nil, opsJ_succ, opsJ_0]; simp (maxSteps := 1000000) (dsimp := false) (implicitDefEqProofs := false) (disch := omega) only [wrap64, go_sem]) | (refine awp_regionJK (id := 11) 35791421 1 (by kernel_rfl) (by kernel_rfl) ?_; simp only [List.map_cons, List.map_nil, opsJ_succ, opsJ_0]; simp (maxSteps := 1000000) (dsimp := false) (implicitDefEqProofs := false) (disch := omega) only [wrap64, go_sem]) | (refine awp_regionJK (id := 13) 35791421 1 (by kernel_rfl) (by kernel_rfl) ?_; simp only [List.map_cons, List.map_nil, opsJ_succ, opsJ_0]; simp (maxSteps := 1000000) (dsimp := false) (implicitDefEqProofs := false) (disch := omega) only [wrap64, go_sem]) | refine awp_seqK fun K hK => ?_ | (refine awp_regionK 35791421 rfl ?_; simp only [List.map_cons, List.map_nil]; simp (maxSteps := 1000000) (dsimp := false) (implicitDefEqProofs := false) (disch := omega) only [wrap64, go_sem]) | (refine awp_regionQK 35791421 (by kernel_rfl) (by kernel_rfl) (by kernel_rfl) ?_; simp only [List.map_cons, List.map_nil]; simp (maxSteps := 1000000) (dsimp := false) (implicitDefEqProofs := false) (disch := omega) only [wrap64, go_sem]) | refine awp_block ?_ | (refine awp_skip ?_; simp only [go_sem]) | (refine awp_exit ?_; simp only [go_sem]) | (refine awp_ret ?_; try simp only [go_sem]) | (refine awp_condP rfl ?_; try simp only [go_sem]) | (refine BrP.mk (fun h => ?_) (fun h => ?_) <;> try simp (dsimp := false) (disch := omega) only [wrap64]) | (refine Br.mk (fun h => ?_) (fun h => ?_) <;> try simp (dsimp := false) (disch := omega) only [wrap64]) | refine Ob.mk (by first | omega | (intro _ _; rfl) | trivial | (intros; trivial) | assumption | (intro i hi; have h0 : i = 0 := (by omega); subst h0; first | rfl | trivial) | (intro i hi; have h0 : i = 0 ∨ i = 1 := (by omega); rcases h0 with rfl | rfl <;> rfl) | (intro i hi; have h0 : i = 0 ∨ i = 1 ∨ i = 2 := (by omega); rcases h0 with rfl | rfl | rfl <;> rfl)) ?_ | apply_assumption -exfalso -symm)
  all_goals (first | (show endQ _ _ _ _ _ _ _; (repeat (rename (∀ (A : Fr) (H : Hp), AWP _ _ _ _ A H → _) => hK; clear hK)); (repeat (rename (Fr → Hp → Prop) => K; clear K))) | (show Exists _; (repeat (rename (∀ (A : Fr) (H : Hp), AWP _ _ _ _ A H → _) => hK; clear hK)); (repeat (rename (Fr → Hp → Prop) => K; clear K))) | skip)
  iterate 6
    · exact end_postCF2 (fun _ => False) (H' := Hp.emp.upd 33 (.cells p.m.length (cM ints [] p.m))) (g := vecF [.v (.int .i64 p.n), .v (.string p.s), .own 33 0 1 p.m.length]) rfl (by decide) rfl rfl (.refl _) (by simp only [go_sem]; rfl) rfl (fun i hi => .refl _) (leF_upd rfl (.refl _ _ _) leF_emp id) rfl id ⟨p.m, ⟨p, hp, rfl, rfl⟩, rfl⟩
  omega
theorem knownPuzzle_ok (i : Int) (hi : 0 ≤ i ∧ i ≤ 5) : AC Try.prog 167 [.v (.int .i64 (i))] Hp.emp (fun _ => false) (postLX 903 (kpL 903)) := by
  refine AC.anyLX (knownPuzzle33_ok i hi) 903 rfl ?_
  rintro _ xss ⟨p, hp, e, rfl⟩
  refine ⟨p, hp, e, ?_⟩
  have : swp 33 903 33 = 903 := rfl
  simp only [AV.ren, pzo]
  congr 1
  funext j
  match j with
  | 0 =>
    simp only [vecF, List.getD_cons_zero, AV.ren]
    congr 1
    funext k
    match k with
    | 0 => rfl
    | 1 => rfl
    | 2 => rfl
    | k + 3 => rfl
  | 1 => rfl
  | j + 2 => rfl
end Go.Proofs.Ytngpacdhpblpbaa
end
/- Drawn puzzles: drawPuzzle. -/
section
namespace Go.Proofs.Ytngpacdhpblpbaa
open Go.Av
set_option linter.unusedSimpArgs false
set_option linter.unusedVariables false
attribute [local irreducible] AWP CallG Ob Br BrP Go.Av.Sub endQ AOps OpV AC thenA blkA opsVC opVC withA withArgs opsQ opQ CallQ withA2 withArgs2
theorem drawPuzzle_ok (d : Dc) : AC Try.prog 166 [.ref 1000000 0] (DH .i64 d) pM (postDLX .i64 903 (pzL 903)) := by
  have h8 : (⟨#[65, 66, 67, 68, 69, 70, 71, 72]⟩ : ByteArray).size = 8 := rfl
  refine ac_of_awp (N := ⟨_, pM, fun h hh => pM_low (Nat.lt_of_lt_of_le hh (by decide))⟩) Try.func166 rfl (by kernel_rfl) Try.ntmps166 (by simp) ?_
  simp only [argsFr, List.zipIdx_cons, List.zipIdx_nil, go_sem]
  unfold DH
  repeat' (first | ((first | refine atF (f := 115) ?_ | refine atQ (f := 115) ?_); (refine callD (by rfl) (between_ok _ _ _ (by omega)) (by rintro _ ⟨v, _, rfl⟩ _; rfl) (fun r d2 hq => ?_); obtain ⟨v2, hv2, rfl⟩ := hq) <;> simp (maxSteps := 1000000) (dsimp := false) (implicitDefEqProofs := false) (disch := omega) only [wrap64, go_sem, h8]) | ((first | refine atF (f := 60) ?_ | refine atQ (f := 60) ?_); (refine callD (by rfl) (oneIn_ok _ _ (by omega)) (by rintro _ ⟨v, _, rfl⟩ _; rfl) (fun r d3 hq => ?_); obtain ⟨v3, hv3, rfl⟩ := hq) <;> simp (maxSteps := 1000000) (dsimp := false) (implicitDefEqProofs := false) (disch := omega) only [wrap64, go_sem, h8]) | ((first | refine atF (f := 142) ?_ | refine atQ (f := 142) ?_); (refine callDI (by rfl) (drawGens_ok _ _ (by omega)) (fun _ _ => rfl) (by decide) rfl (fun d5 gs hgs => ?_)) <;> simp (maxSteps := 1000000) (dsimp := false) (implicitDefEqProofs := false) (disch := omega) only [wrap64, go_sem, h8]) | ((first | refine atF (f := 167) ?_ | refine atQ (f := 167) ?_); (refine callLX (knownPuzzle_ok _ (by omega)) (kpL_scrub 903) rfl (fun r xss hq => ?_); obtain ⟨p, hp, rfl, rfl⟩ := hq; unfold pzo) <;> simp (maxSteps := 1000000) (dsimp := false) (implicitDefEqProofs := false) (disch := omega) only [wrap64, go_sem, h8]) | refine awp_seqK fun K hK => ?_ | (refine awp_regionK 365 rfl ?_; simp only [List.map_cons, List.map_nil]; simp (maxSteps := 1000000) (dsimp := false) (implicitDefEqProofs := false) (disch := omega) only [wrap64, go_sem, h8]) | (refine awp_regionQK 365 (by kernel_rfl) (by kernel_rfl) (by kernel_rfl) ?_; simp only [List.map_cons, List.map_nil]; simp (maxSteps := 1000000) (dsimp := false) (implicitDefEqProofs := false) (disch := omega) only [wrap64, go_sem, h8]) | refine awp_block ?_ | (refine awp_skip ?_; simp only [go_sem, h8]) | (refine awp_exit ?_; simp only [go_sem, h8]) | (refine awp_ret ?_; try simp only [go_sem, h8]) | (refine awp_condP rfl ?_; try simp only [go_sem, h8]) | (refine BrP.mk (fun h => ?_) (fun h => ?_) <;> try simp (dsimp := false) (disch := omega) only [wrap64]) | (refine Br.mk (fun h => ?_) (fun h => ?_) <;> try simp (dsimp := false) (disch := omega) only [wrap64]) | refine Ob.mk (by first | omega | (intro _ _; rfl) | trivial | (intros; trivial) | assumption | (intro i hi; have h0 : i = 0 := (by omega); subst h0; first | rfl | trivial) | (intro i hi; have h0 : i = 0 ∨ i = 1 := (by omega); rcases h0 with rfl | rfl <;> rfl) | (intro i hi; have h0 : i = 0 ∨ i = 1 ∨ i = 2 := (by omega); rcases h0 with rfl | rfl | rfl <;> rfl)) ?_ | apply_assumption -exfalso -symm)
  all_goals (first | (show endQ _ _ _ _ _ _ _; (repeat (rename (∀ (A : Fr) (H : Hp), AWP _ _ _ _ A H → _) => hK; clear hK)); (repeat (rename (Fr → Hp → Prop) => K; clear K))) | (show Exists _; (repeat (rename (∀ (A : Fr) (H : Hp), AWP _ _ _ _ A H → _) => hK; clear hK)); (repeat (rename (Fr → Hp → Prop) => K; clear K))) | skip)
  · exact end_postC rfl rfl (by simp only [go_sem]; rfl) rfl (fun i hi => rfl) (H' := (DH .i64 d3).upd 903 (.cells p.m.length (cM ints [] p.m))) (leF_upd rfl (.refl _ _ _) (leF_upd rfl (.refl _ _ _) leF_emp id) id) rfl ⟨d3, p.m, ⟨p, hp, rfl, rfl⟩, rfl⟩
  · refine end_postC rfl rfl (by simp only [go_sem]; rfl) rfl (g := vecF [.v (.int .i64 v2), .v (.string ((⟨#[65, 66, 67, 68, 69, 70, 71, 72]⟩ : ByteArray).extract 0 gs.length)), .own 903 0 1 gs.length]) (fun i hi => ?_) (H' := (DH .i64 d5).upd 903 (.cells gs.length (cM ints [] gs))) (leF_upd rfl (.refl _ _ _) (leF_upd rfl (.refl _ _ _) leF_emp id) id) rfl ⟨d5, gs, ⟨⟨v2, (⟨#[65, 66, 67, 68, 69, 70, 71, 72]⟩ : ByteArray).extract 0 gs.length, gs⟩, ⟨by unfold r64; dsimp only; omega, by dsimp only; rw [ByteArray.size_extract]; omega, by have := hgs.1; dsimp only; omega⟩, rfl, rfl⟩, rfl⟩
    match i, hi with
    | 0, _ => rfl
    | 1, _ => rfl
    | 2, _ => rfl
end Go.Proofs.Ytngpacdhpblpbaa
end
/- Drawn states: drawMember, drawState. -/
section
namespace Go.Proofs.Ytngpacdhpblpbaa
open Go.Av
set_option linter.unusedSimpArgs false
set_option linter.unusedVariables false
attribute [local irreducible] AWP CallG Ob Br BrP Go.Av.Sub endQ AOps OpV AC thenA blkA opsVC opVC withA withArgs opsQ opQ CallQ withA2 withArgs2
open Go.Pm (Pm idn comp)
/-- A short row of int64. -/
def wdQ (w : List Int) : Prop := w.length ≤ 201 ∧ ∀ x ∈ w, r64 x
theorem pm_wdQ {n : Nat} {q : List Int} (h : Pm n q) (hn : n ≤ 20) : wdQ q := by
  refine ⟨by rw [h.1]; omega, fun x hx => ?_⟩
  obtain ⟨i, hi, rfl⟩ := List.getElem_of_mem hx
  have := h.2.1 i (by rw [← h.1]; exact hi)
  rw [List.getD_eq_getElem?_getD, List.getElem?_eq_getElem hi] at this
  simp only [Option.getD_some] at this
  unfold r64; omega
theorem drawMember_ok (d : Dc) (n : Int) (gs : List (List Int)) (hn : r64 n) : AC Try.prog 169 [.ref 1000000 0, .v (.int .i64 (n)), intss gs] (DH .i64 d) pM (postD .i64 fun r => ∃ w : List Int, wdQ w ∧ r = ints w) := by
  unfold r64 at hn
  by_cases hok : isGens n gs
  · have hd : decide (isGens n gs) = true := decide_eq_true hok
    obtain ⟨h1, h2, h3⟩ := gens_pm hok
    have hgl := hok.2.1
    have h1 := Hold.mk h1
    obtain ⟨m, em⟩ : ∃ m : Nat, n = (m : Int) := ⟨n.toNat, by omega⟩
    subst em
    have h3' : m ≤ 20 := by omega
    have hid : AC Try.prog 81 [.v (.int .i64 ((m : Nat)))] Hp.emp (fun _ => false) (retI 20 (idn m)) := by rw [idn_marks]; exact specIdentity_ok m (by omega) 20
    refine ac_of_awp (N := ⟨_, pM, fun h hh => pM_low (Nat.lt_of_lt_of_le hh (by decide))⟩) Try.func169 rfl (by kernel_rfl) Try.ntmps169 (by simp) ?_
    simp only [argsFr, List.zipIdx_cons, List.zipIdx_nil, go_sem]
    unfold DH
    repeat' (first | ((first | refine atF (f := 129) ?_ | refine atQ (f := 129) ?_); (refine callD (by rfl) (sBelowP_ok _ _ (by omega)) (by rintro _ ⟨v, _, rfl⟩ _; rfl) (fun r d2 hq => ?_); obtain ⟨v2, hv2, rfl⟩ := hq) <;> simp (maxSteps := 1000000) (dsimp := false) (implicitDefEqProofs := false) (disch := omega) only [wrap64, go_sem, hd]) | refine awp_seqK fun K hK => ?_ | (refine awp_regionK 2199291695559 rfl ?_; simp only [List.map_cons, List.map_nil]; simp (maxSteps := 1000000) (dsimp := false) (implicitDefEqProofs := false) (disch := omega) only [wrap64, go_sem, hd]) | (refine awp_regionQK 2199291695559 (by kernel_rfl) (by kernel_rfl) (by kernel_rfl) ?_; simp only [List.map_cons, List.map_nil]; simp (maxSteps := 1000000) (dsimp := false) (implicitDefEqProofs := false) (disch := omega) only [wrap64, go_sem, hd]) | refine awp_block ?_ | (refine awp_skip ?_; simp only [go_sem, hd]) | (refine awp_exit ?_; simp only [go_sem, hd]) | (refine awp_ret ?_; try simp only [go_sem, hd]) | (refine awp_condP rfl ?_; try simp only [go_sem, hd]) | (refine BrP.mk (fun h => ?_) (fun h => ?_) <;> try simp (dsimp := false) (disch := omega) only [wrap64]) | (refine Br.mk (fun h => ?_) (fun h => ?_) <;> try simp (dsimp := false) (disch := omega) only [wrap64]) | refine Ob.mk (by first | omega | (intro _ _; rfl) | trivial | (intros; trivial) | assumption | (intro i hi; have h0 : i = 0 := (by omega); subst h0; first | rfl | trivial) | (intro i hi; have h0 : i = 0 ∨ i = 1 := (by omega); rcases h0 with rfl | rfl <;> rfl) | (intro i hi; have h0 : i = 0 ∨ i = 1 ∨ i = 2 := (by omega); rcases h0 with rfl | rfl | rfl <;> rfl)) ?_ | ((first | ((first | refine atF (f := 27) ?_ | refine atQ (f := 27) ?_); (first | (refine cV (hac := specIsGeneratorSet_ok (m : Int) gs) (hK := ?_)) | (refine cQV (hac := specIsGeneratorSet_ok (m : Int) gs) (hK := ?_)))) | (refine cFI (hac := hid) (hK := ?_)) | (refine cQI (hac := hid) (hK := ?_))); simp (maxSteps := 1000000) (dsimp := false) (implicitDefEqProofs := false) (disch := omega) only [wrap64, go_sem, hd]) | apply_assumption -exfalso -symm)
    all_goals (first | (show endQ _ _ _ _ _ _ _; (repeat (rename (∀ (A : Fr) (H : Hp), AWP _ _ _ _ A H → _) => hK; clear hK)); (repeat (rename (Fr → Hp → Prop) => K; clear K))) | (show Exists _; (repeat (rename (∀ (A : Fr) (H : Hp), AWP _ _ _ _ A H → _) => hK; clear hK)); (repeat (rename (Fr → Hp → Prop) => K; clear K))) | skip)
    refine awp_loop (ι := Int × List Int × Dc) (fun z => [(8, .v (.int .i64 (z.1))), (7, .list false 1 (z.2.1).length (cM iv 0 (z.2.1))), (0, .ref 1000000 0), (1, .v (.int .i64 ((m : Nat)))), (2, .list false 1 (gs).length (cM ints [] (gs)))]) (fun z => Hp.emp.upd 1000000 (.cells 3 (dF .i64 z.2.2))) (fun z => (0 ≤ z.1 ∧ z.1 ≤ 8) ∧ Pm m z.2.1) (fun z => z.1.toNat) (v2, idn m, d2) ⟨by dsimp only; omega, Go.Pm.Pm.idn m⟩ (Sub.toL (by simp only [go_sem] <;> first | trivial | (simp only [Option.some.injEq, AV.v.injEq, AV.own.injEq, AV.list.injEq, Value.int.injEq, Value.bool.injEq, true_and, and_true]; first | omega | (simp; done)) | (simp; done) | (simp; omega)) (Hp.le_refl _)) ?_
    rintro ⟨k, q, d3⟩ ⟨hk, hq⟩
    dsimp only at hk hq ⊢
    have hql := hq.1
    have hco := fun v : Int => fun h : 0 ≤ v ∧ v < gs.length => (by
      have hg := h1.h (gs.getD v.toNat []) (by rw [List.getD_eq_getElem?_getD, List.getElem?_eq_getElem (show v.toNat < gs.length by omega)]; exact List.getElem_mem _)
      exact ⟨specCompose_ok q (gs.getD v.toNat []) (by omega) (fun j hj => by have := hq.2.1 j (by omega); have := hg.1; omega) 39, hq.comp hg⟩ : AC Try.prog 66 [ints q, ints (gs.getD v.toNat [])] Hp.emp (fun _ => false) (retI 39 (comp q (gs.getD v.toNat []))) ∧ Pm m (comp q (gs.getD v.toNat [])))
    have hco := Hold.mk hco
    repeat' (first | ((first | refine atF (f := 129) ?_ | refine atQ (f := 129) ?_); (refine callD (by rfl) (sBelowP_ok _ _ (by omega)) (by rintro _ ⟨v, _, rfl⟩ _; rfl) (fun r d4 hq => ?_); obtain ⟨v4, hv4, rfl⟩ := hq) <;> simp (maxSteps := 1000000) (dsimp := false) (implicitDefEqProofs := false) (disch := omega) only [wrap64, go_sem]) | ((first | refine atF (f := 60) ?_ | refine atQ (f := 60) ?_); (refine callD (by rfl) (oneIn_ok _ _ (by omega)) (by rintro _ ⟨v, _, rfl⟩ _; rfl) (fun r d5 hq => ?_); obtain ⟨v5, hv5, rfl⟩ := hq) <;> simp (maxSteps := 1000000) (dsimp := false) (implicitDefEqProofs := false) (disch := omega) only [wrap64, go_sem]) | ((first | refine atF (f := 116) ?_ | refine atQ (f := 116) ?_); (refine callD (by rfl) (drawAnyPerm_ok _ _ (by omega)) (by rintro _ ⟨v, _, rfl⟩ _; rfl) (fun r d6 hq => ?_); obtain ⟨w, hw, rfl⟩ := hq) <;> simp (maxSteps := 1000000) (dsimp := false) (implicitDefEqProofs := false) (disch := omega) only [wrap64, go_sem]) | refine awp_seqK fun K hK => ?_ | (refine awp_regionK 2199291695559 rfl ?_; simp only [List.map_cons, List.map_nil]; simp (maxSteps := 1000000) (dsimp := false) (implicitDefEqProofs := false) (disch := omega) only [wrap64, go_sem]) | (refine awp_regionQK 2199291695559 (by kernel_rfl) (by kernel_rfl) (by kernel_rfl) ?_; simp only [List.map_cons, List.map_nil]; simp (maxSteps := 1000000) (dsimp := false) (implicitDefEqProofs := false) (disch := omega) only [wrap64, go_sem]) | refine awp_block ?_ | (refine awp_skip ?_; simp only [go_sem]) | (refine awp_exit ?_; simp only [go_sem]) | (refine awp_ret ?_; try simp only [go_sem]) | (refine awp_condP rfl ?_; try simp only [go_sem]) | (refine BrP.mk (fun h => ?_) (fun h => ?_) <;> try simp (dsimp := false) (disch := omega) only [wrap64]) | (refine Br.mk (fun h => ?_) (fun h => ?_) <;> try simp (dsimp := false) (disch := omega) only [wrap64]) | refine Ob.mk (by first | omega | (intro _ _; rfl) | trivial | (intros; trivial) | assumption | (intro i hi; have h0 : i = 0 := (by omega); subst h0; first | rfl | trivial) | (intro i hi; have h0 : i = 0 ∨ i = 1 := (by omega); rcases h0 with rfl | rfl <;> rfl) | (intro i hi; have h0 : i = 0 ∨ i = 1 ∨ i = 2 := (by omega); rcases h0 with rfl | rfl | rfl <;> rfl)) ?_ | ((first | (refine cFI (hac := (hco.h _ (by omega)).1) (hK := ?_)) | (refine cQI (hac := (hco.h _ (by omega)).1) (hK := ?_))); simp (maxSteps := 1000000) (dsimp := false) (implicitDefEqProofs := false) (disch := omega) only [wrap64, go_sem]) | apply_assumption -exfalso -symm)
    all_goals (first | (show endQ _ _ _ _ _ _ _; (repeat (rename (∀ (A : Fr) (H : Hp), AWP _ _ _ _ A H → _) => hK; clear hK)); (repeat (rename (Fr → Hp → Prop) => K; clear K))) | (show Exists _; (repeat (rename (∀ (A : Fr) (H : Hp), AWP _ _ _ _ A H → _) => hK; clear hK)); (repeat (rename (Fr → Hp → Prop) => K; clear K))) | skip)
    · exact ⟨(k - 1, comp q (gs.getD v4.toNat []), d4), ⟨by dsimp only; omega, (hco.h v4 (by omega)).2⟩, by dsimp only; omega, Sub.toL (by simp only [go_sem] <;> first | trivial | (simp only [Option.some.injEq, AV.v.injEq, AV.own.injEq, AV.list.injEq, Value.int.injEq, Value.bool.injEq, true_and, and_true]; first | omega | (simp; done)) | (simp; done) | (simp; omega)) (Hp.le_refl _)⟩
    iterate 2
      · exact end_DF (D := fun x => x ≠ 1000000) rfl rfl rfl (.refl _) (by simp) ⟨w, ⟨by have := hw.1; omega, hw.2⟩, rfl⟩
      · exact end_DF (D := fun x => x ≠ 1000000) rfl rfl rfl (.refl _) (by simp) ⟨q, pm_wdQ hq h3', rfl⟩
  · have hd : decide (isGens n gs) = false := decide_eq_false hok
    refine ac_of_awp (N := ⟨_, pM, fun h hh => pM_low (Nat.lt_of_lt_of_le hh (by decide))⟩) Try.func169 rfl (by kernel_rfl) Try.ntmps169 (by simp) ?_
    simp only [argsFr, List.zipIdx_cons, List.zipIdx_nil, go_sem]
    unfold DH
    repeat' (first | ((first | refine atF (f := 116) ?_ | refine atQ (f := 116) ?_); (refine callD (by rfl) (drawAnyPerm_ok _ _ (by omega)) (by rintro _ ⟨v, _, rfl⟩ _; rfl) (fun r d2 hq => ?_); obtain ⟨w, hw, rfl⟩ := hq) <;> simp (maxSteps := 1000000) (dsimp := false) (implicitDefEqProofs := false) (disch := omega) only [wrap64, go_sem, hd]) | refine awp_seqK fun K hK => ?_ | (refine awp_regionK 2199291695559 rfl ?_; simp only [List.map_cons, List.map_nil]; simp (maxSteps := 1000000) (dsimp := false) (implicitDefEqProofs := false) (disch := omega) only [wrap64, go_sem, hd]) | (refine awp_regionQK 2199291695559 (by kernel_rfl) (by kernel_rfl) (by kernel_rfl) ?_; simp only [List.map_cons, List.map_nil]; simp (maxSteps := 1000000) (dsimp := false) (implicitDefEqProofs := false) (disch := omega) only [wrap64, go_sem, hd]) | refine awp_block ?_ | (refine awp_skip ?_; simp only [go_sem, hd]) | (refine awp_exit ?_; simp only [go_sem, hd]) | (refine awp_ret ?_; try simp only [go_sem, hd]) | (refine awp_condP rfl ?_; try simp only [go_sem, hd]) | (refine BrP.mk (fun h => ?_) (fun h => ?_) <;> try simp (dsimp := false) (disch := omega) only [wrap64]) | (refine Br.mk (fun h => ?_) (fun h => ?_) <;> try simp (dsimp := false) (disch := omega) only [wrap64]) | refine Ob.mk (by first | omega | (intro _ _; rfl) | trivial | (intros; trivial) | assumption | (intro i hi; have h0 : i = 0 := (by omega); subst h0; first | rfl | trivial) | (intro i hi; have h0 : i = 0 ∨ i = 1 := (by omega); rcases h0 with rfl | rfl <;> rfl) | (intro i hi; have h0 : i = 0 ∨ i = 1 ∨ i = 2 := (by omega); rcases h0 with rfl | rfl | rfl <;> rfl)) ?_ | ((first | ((first | refine atF (f := 27) ?_ | refine atQ (f := 27) ?_); (first | (refine cV (hac := specIsGeneratorSet_ok n gs) (hK := ?_)) | (refine cQV (hac := specIsGeneratorSet_ok n gs) (hK := ?_))))); simp (maxSteps := 1000000) (dsimp := false) (implicitDefEqProofs := false) (disch := omega) only [wrap64, go_sem, hd]) | apply_assumption -exfalso -symm)
    all_goals (first | (show endQ _ _ _ _ _ _ _; (repeat (rename (∀ (A : Fr) (H : Hp), AWP _ _ _ _ A H → _) => hK; clear hK)); (repeat (rename (Fr → Hp → Prop) => K; clear K))) | (show Exists _; (repeat (rename (∀ (A : Fr) (H : Hp), AWP _ _ _ _ A H → _) => hK; clear hK)); (repeat (rename (Fr → Hp → Prop) => K; clear K))) | skip)
    exact end_DF (D := fun x => x ≠ 1000000) rfl rfl rfl (.refl _) (by simp) ⟨w, ⟨by have := hw.1; omega, hw.2⟩, rfl⟩
theorem drawState_ok (d : Dc) (p : Pz) (hp : r64 p.n) : AC Try.prog 128 [.ref 1000000 0, pz p] (DH .i64 d) pM (postD .i64 fun r => ∃ w : List Int, wdQ w ∧ r = ints w) := by
  refine ac_of_awp (N := ⟨_, pM, fun h hh => pM_low (Nat.lt_of_lt_of_le hh (by decide))⟩) Try.func128 rfl (by kernel_rfl) Try.ntmps128 (by simp) ?_
  simp only [argsFr, List.zipIdx_cons, List.zipIdx_nil, go_sem]
  unfold DH
  repeat' (first | ((first | refine atF (f := 169) ?_ | refine atQ (f := 169) ?_); (refine callD (by rfl) (drawMember_ok _ _ _ hp) (by rintro _ ⟨v, _, rfl⟩ _; rfl) (fun r d2 hq => ?_); obtain ⟨w, hw, rfl⟩ := hq) <;> simp (maxSteps := 1000000) (dsimp := false) (implicitDefEqProofs := false) (disch := omega) only [wrap64, go_sem]) | refine awp_seqK fun K hK => ?_ | (refine awp_regionK 27 rfl ?_; simp only [List.map_cons, List.map_nil]; simp (maxSteps := 1000000) (dsimp := false) (implicitDefEqProofs := false) (disch := omega) only [wrap64, go_sem]) | (refine awp_regionQK 27 (by kernel_rfl) (by kernel_rfl) (by kernel_rfl) ?_; simp only [List.map_cons, List.map_nil]; simp (maxSteps := 1000000) (dsimp := false) (implicitDefEqProofs := false) (disch := omega) only [wrap64, go_sem]) | refine awp_block ?_ | (refine awp_skip ?_; simp only [go_sem]) | (refine awp_exit ?_; simp only [go_sem]) | (refine awp_ret ?_; try simp only [go_sem]) | (refine awp_condP rfl ?_; try simp only [go_sem]) | (refine BrP.mk (fun h => ?_) (fun h => ?_) <;> try simp (dsimp := false) (disch := omega) only [wrap64]) | (refine Br.mk (fun h => ?_) (fun h => ?_) <;> try simp (dsimp := false) (disch := omega) only [wrap64]) | refine Ob.mk (by first | omega | (intro _ _; rfl) | trivial | (intros; trivial) | assumption | (intro i hi; have h0 : i = 0 := (by omega); subst h0; first | rfl | trivial) | (intro i hi; have h0 : i = 0 ∨ i = 1 := (by omega); rcases h0 with rfl | rfl <;> rfl) | (intro i hi; have h0 : i = 0 ∨ i = 1 ∨ i = 2 := (by omega); rcases h0 with rfl | rfl | rfl <;> rfl)) ?_ | apply_assumption -exfalso -symm)
  all_goals (first | (show endQ _ _ _ _ _ _ _; (repeat (rename (∀ (A : Fr) (H : Hp), AWP _ _ _ _ A H → _) => hK; clear hK)); (repeat (rename (Fr → Hp → Prop) => K; clear K))) | (show Exists _; (repeat (rename (∀ (A : Fr) (H : Hp), AWP _ _ _ _ A H → _) => hK; clear hK)); (repeat (rename (Fr → Hp → Prop) => K; clear K))) | skip)
  exact end_DF (D := fun x => x ≠ 1000000) rfl rfl rfl (.refl _) (by simp) ⟨w, hw, rfl⟩
end Go.Proofs.Ytngpacdhpblpbaa
end
