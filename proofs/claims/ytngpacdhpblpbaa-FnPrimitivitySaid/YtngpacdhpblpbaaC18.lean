import Derived.Test.YtngpacdhpblpbaaC17
import Derived.Test.YtngpacdhpblpbaaC5
section
namespace Go.Proofs.Ytngpacdhpblpbaa
open Go.Av
set_option linter.unusedSimpArgs false
set_option linter.unusedVariables false
attribute [local irreducible] AWP CallG Ob Br BrP Go.Av.Sub endQ AOps OpV AC thenA blkA opsVC opVC withA withArgs opsQ opQ CallQ withA2 withArgs2
open Go.Pm (Pm ptI partI IsPart ixP Rsp rspI actP img invp SB parts Cg)
/-- The least block system is one. -/
theorem least_bs {n : Int} {gs : List (List Int)} (h : isGens n gs) (B : Nat → Nat → Prop) : isBS n gs (parts (Cg gs B) n.toNat) := by
  obtain ⟨h1, h2, h3⟩ := gens_pm h
  refine ⟨h, (Go.Pm.Cg.eqv n.toNat gs B).part, fun k hk => Go.Pm.cg_rsp h1 ?_⟩
  rw [List.getD_eq_getElem?_getD, List.getElem?_eq_getElem hk]; exact List.getElem_mem hk
theorem likeParts_ok (n : Nat) (hn : n ≤ 20) (R : Nat → Nat → Prop) : AC Try.prog 25 [intss (parts R n), intss (parts R n)] Hp.emp (fun _ => false) (retV (.v (.bool (true)))) := by
  have hp := parts_bl hn R
  have := likeLists_ok (parts R n) (parts R n) (by have := hp.1; omega) (fun j => by have := hp.2 j; omega)
  rwa [decide_eq_true rfl] at this
theorem bsLeast_ok {n : Int} {gs : List (List Int)} (hok : isGens n gs) (B : Nat → Nat → Prop) : AC Try.prog 31 [.v (.int .i64 (n)), intss gs, intss (parts (Cg gs B) n.toNat)] Hp.emp (fun _ => false) (retV (.v (.bool (true)))) := by
  have hp := parts_bl (n := n.toNat) (by have := gens_pm hok; omega) (Cg gs B)
  have := implIsBlockSystem_ok n gs (parts (Cg gs B) n.toNat) (by have := hp.1; omega) (fun j => by have := hp.2 j; omega)
  rwa [decide_eq_true (least_bs hok B)] at this
end Go.Proofs.Ytngpacdhpblpbaa
end
/- The finest block systems with the point 0 and another one in one block; primitive groups. -/
section
namespace Go.Proofs.Ytngpacdhpblpbaa
open Go.Av
set_option linter.unusedSimpArgs false
set_option linter.unusedVariables false
attribute [local irreducible] AWP CallG Ob Br BrP Go.Av.Sub endQ AOps OpV AC thenA blkA opsVC opVC withA withArgs opsQ opQ CallQ withA2 withArgs2
open Go.Pm (Pm ptI partI IsPart ixP Rsp rspI actP img invp mrg Lbl SL SB parts loR clsF clsN partK Cg MB Snd cntL idn Rep)
theorem indexFunc3_ok (xs : List (List (List Int))) (g : FuncId) (c : AV) (p : List (List Int) → Bool) (hx : xs.length ≤ 1048576)
    (hg : ∀ j, j < xs.length → AC Try.prog g [intss (xs.getD j []), c] Hp.emp (fun _ => false) (retV (.v (.bool (p (xs.getD j [])))))) :
    AC Try.prog 153 [i3 xs, .clo g 1 (fun _ => c)] Hp.emp (fun _ => false) (retV (.v (.int .i64 (fidx p xs)))) := by
  refine ac_of_awp (N := ⟨_, fun _ => false, fun _ _ => rfl⟩) Try.func153 rfl (by kernel_rfl) Try.ntmps153 (by simp) ?_
  simp only [argsFr, List.zipIdx_cons, List.zipIdx_nil, go_sem]
  repeat' (first | refine awp_seqK fun K hK => ?_ | (refine awp_regionK 66483 rfl ?_; simp only [List.map_cons, List.map_nil]; simp (maxSteps := 1000000) (dsimp := false) (implicitDefEqProofs := false) (disch := omega) only [wrap64, go_sem]) | (refine awp_regionQK 66483 (by kernel_rfl) (by kernel_rfl) (by kernel_rfl) ?_; simp only [List.map_cons, List.map_nil]; simp (maxSteps := 1000000) (dsimp := false) (implicitDefEqProofs := false) (disch := omega) only [wrap64, go_sem]) | refine awp_block ?_ | (refine awp_skip ?_; simp only [go_sem]) | (refine awp_exit ?_; simp only [go_sem]) | (refine awp_ret ?_; try simp only [go_sem]) | (refine awp_condP rfl ?_; try simp only [go_sem]) | (refine BrP.mk (fun h => ?_) (fun h => ?_) <;> try simp (dsimp := false) (disch := omega) only [wrap64]) | (refine Br.mk (fun h => ?_) (fun h => ?_) <;> try simp (dsimp := false) (disch := omega) only [wrap64]) | refine Ob.mk (by first | omega | (intro _ _; rfl) | trivial | (intros; trivial) | assumption | (intro i hi; have h0 : i = 0 := (by omega); subst h0; first | rfl | trivial) | (intro i hi; have h0 : i = 0 ∨ i = 1 := (by omega); rcases h0 with rfl | rfl <;> rfl) | (intro i hi; have h0 : i = 0 ∨ i = 1 ∨ i = 2 := (by omega); rcases h0 with rfl | rfl | rfl <;> rfl)) ?_ | apply_assumption -exfalso -symm)
  all_goals (first | (show endQ _ _ _ _ _ _ _; (repeat (rename (∀ (A : Fr) (H : Hp), AWP _ _ _ _ A H → _) => hK; clear hK)); (repeat (rename (Fr → Hp → Prop) => K; clear K))) | (show Exists _; (repeat (rename (∀ (A : Fr) (H : Hp), AWP _ _ _ _ A H → _) => hK; clear hK)); (repeat (rename (Fr → Hp → Prop) => K; clear K))) | skip)
  refine awp_loop (ι := Nat) (fun k => [(8, .v (.int .i64 (k))), (7, .v (.int .i64 (xs.length))), (0, i3 xs), (1, .clo g 1 (fun _ => c))]) (fun k => Hp.emp) (fun k => k ≤ xs.length ∧ ∀ j, j < k → p (xs.getD j []) = false) (fun k => xs.length - k) 0 ?_ (Sub.toL (by simp only [go_sem] <;> first | trivial | (simp only [Option.some.injEq, AV.v.injEq, AV.own.injEq, AV.list.injEq, Value.int.injEq, Value.bool.injEq, true_and, and_true]; first | omega | (simp; done)) | (simp; done) | (simp; omega)) (by (repeat' (first | exact Hp.le_emp _ | exact Hp.le_refl _ | refine Hp.le_upd ?_ ?_)); all_goals (first | rfl | (simp only [go_sem]; first | rfl | (refine cellsE ?_ ?_ <;> (simp)) | (simp))))) ?_
  · exact ⟨Nat.zero_le _, fun j h => absurd h (Nat.not_lt_zero _)⟩
  intro k hk
  repeat' (first | refine awp_seqK fun K hK => ?_ | (refine awp_regionK 66483 rfl ?_; simp only [List.map_cons, List.map_nil]; simp (maxSteps := 1000000) (dsimp := false) (implicitDefEqProofs := false) (disch := omega) only [wrap64, go_sem]) | (refine awp_regionQK 66483 (by kernel_rfl) (by kernel_rfl) (by kernel_rfl) ?_; simp only [List.map_cons, List.map_nil]; simp (maxSteps := 1000000) (dsimp := false) (implicitDefEqProofs := false) (disch := omega) only [wrap64, go_sem]) | refine awp_block ?_ | (refine awp_skip ?_; simp only [go_sem]) | (refine awp_exit ?_; simp only [go_sem]) | (refine awp_ret ?_; try simp only [go_sem]) | (refine awp_condP rfl ?_; try simp only [go_sem]) | (refine BrP.mk (fun h => ?_) (fun h => ?_) <;> try simp (dsimp := false) (disch := omega) only [wrap64]) | (refine Br.mk (fun h => ?_) (fun h => ?_) <;> try simp (dsimp := false) (disch := omega) only [wrap64]) | refine Ob.mk (by first | omega | (intro _ _; rfl) | trivial | (intros; trivial) | assumption | (intro i hi; have h0 : i = 0 := (by omega); subst h0; first | rfl | trivial) | (intro i hi; have h0 : i = 0 ∨ i = 1 := (by omega); rcases h0 with rfl | rfl <;> rfl) | (intro i hi; have h0 : i = 0 ∨ i = 1 ∨ i = 2 := (by omega); rcases h0 with rfl | rfl | rfl <;> rfl)) ?_ | ((first | (refine cV (hac := hg k (by omega)) (hK := ?_)) | (refine cQV (hac := hg k (by omega)) (hK := ?_))); simp (maxSteps := 1000000) (dsimp := false) (implicitDefEqProofs := false) (disch := omega) only [wrap64, go_sem]) | apply_assumption -exfalso -symm)
  all_goals (first | (show endQ _ _ _ _ _ _ _; (repeat (rename (∀ (A : Fr) (H : Hp), AWP _ _ _ _ A H → _) => hK; clear hK)); (repeat (rename (Fr → Hp → Prop) => K; clear K))) | (show Exists _; (repeat (rename (∀ (A : Fr) (H : Hp), AWP _ _ _ _ A H → _) => hK; clear hK)); (repeat (rename (Fr → Hp → Prop) => K; clear K))) | skip)
  · exact end_retN rfl rfl (fidx_hit p xs [] k (by omega) hk.2 ‹_›).symm
  · refine ⟨k + 1, ?_, ?_, Sub.toL (by simp only [go_sem] <;> first | trivial | (simp only [Option.some.injEq, AV.v.injEq, AV.own.injEq, AV.list.injEq, Value.int.injEq, Value.bool.injEq, true_and, and_true]; first | omega | (simp; done)) | (simp; done) | (simp; omega)) (by (repeat' (first | exact Hp.le_emp _ | exact Hp.le_refl _ | refine Hp.le_upd ?_ ?_)); all_goals (first | rfl | (simp only [go_sem]; first | rfl | (refine cellsE ?_ ?_ <;> (simp)) | (simp))))⟩
    · refine ⟨by omega, fun j hj => ?_⟩
      by_cases h' : j = k
      · subst h'; assumption
      · exact hk.2 j (by omega)
    · omega
  · exact end_retN rfl rfl (fidx_none p xs [] fun j hj => hk.2 j (by omega)).symm
theorem containsFunc3_ok (xs : List (List (List Int))) (g : FuncId) (c : AV) (p : List (List Int) → Bool) (hx : xs.length ≤ 1048576)
    (hg : ∀ j, j < xs.length → AC Try.prog g [intss (xs.getD j []), c] Hp.emp (fun _ => false) (retV (.v (.bool (p (xs.getD j [])))))) :
    AC Try.prog 105 [i3 xs, .clo g 1 (fun _ => c)] Hp.emp (fun _ => false) (retV (.v (.bool (xs.any p)))) := by
  refine ac_of_awp (N := ⟨_, fun _ => false, fun _ _ => rfl⟩) Try.func105 rfl (by kernel_rfl) Try.ntmps105 (by simp) ?_
  simp only [argsFr, List.zipIdx_cons, List.zipIdx_nil, go_sem]
  repeat' (first | refine awp_seqK fun K hK => ?_ | (refine awp_regionK 19 rfl ?_; simp only [List.map_cons, List.map_nil]; simp (maxSteps := 1000000) (dsimp := false) (implicitDefEqProofs := false) (disch := omega) only [wrap64, go_sem]) | (refine awp_regionQK 19 (by kernel_rfl) (by kernel_rfl) (by kernel_rfl) ?_; simp only [List.map_cons, List.map_nil]; simp (maxSteps := 1000000) (dsimp := false) (implicitDefEqProofs := false) (disch := omega) only [wrap64, go_sem]) | refine awp_block ?_ | (refine awp_skip ?_; simp only [go_sem]) | (refine awp_exit ?_; simp only [go_sem]) | (refine awp_ret ?_; try simp only [go_sem]) | (refine awp_condP rfl ?_; try simp only [go_sem]) | (refine BrP.mk (fun h => ?_) (fun h => ?_) <;> try simp (dsimp := false) (disch := omega) only [wrap64]) | (refine Br.mk (fun h => ?_) (fun h => ?_) <;> try simp (dsimp := false) (disch := omega) only [wrap64]) | refine Ob.mk (by first | omega | (intro _ _; rfl) | trivial | (intros; trivial) | assumption | (intro i hi; have h0 : i = 0 := (by omega); subst h0; first | rfl | trivial) | (intro i hi; have h0 : i = 0 ∨ i = 1 := (by omega); rcases h0 with rfl | rfl <;> rfl) | (intro i hi; have h0 : i = 0 ∨ i = 1 ∨ i = 2 := (by omega); rcases h0 with rfl | rfl | rfl <;> rfl)) ?_ | ((first | ((first | refine atF (f := 153) ?_ | refine atQ (f := 153) ?_); (first | (refine cV (hac := indexFunc3_ok xs g c p hx hg) (hK := ?_)) | (refine cQV (hac := indexFunc3_ok xs g c p hx hg) (hK := ?_))))); simp (maxSteps := 1000000) (dsimp := false) (implicitDefEqProofs := false) (disch := omega) only [wrap64, go_sem]) | apply_assumption -exfalso -symm)
  all_goals (first | (show endQ _ _ _ _ _ _ _; (repeat (rename (∀ (A : Fr) (H : Hp), AWP _ _ _ _ A H → _) => hK; clear hK)); (repeat (rename (Fr → Hp → Prop) => K; clear K))) | (show Exists _; (repeat (rename (∀ (A : Fr) (H : Hp), AWP _ _ _ _ A H → _) => hK; clear hK)); (repeat (rename (Fr → Hp → Prop) => K; clear K))) | skip)
  refine end_retV' rfl rfl ?_
  congr 2
  have := fidx_nonneg p xs
  cases hh : xs.any p
  · simp [hh] at this; simp; omega
  · simp [hh] at this; simpa using this
theorem mbsClo_ok (b c : List (List Int)) (hb : blQ b) : AC Try.prog 106 [intss b, .ptr 1 (fun _ => intss c)] Hp.emp (fun _ => false) (retV (.v (.bool (decide (b = c))))) := by
  have hb2 := Hold.mk hb.2
  have hb1 := hb.1
  refine ac_of_awp (N := ⟨_, fun _ => false, fun _ _ => rfl⟩) Try.func106 rfl (by kernel_rfl) Try.ntmps106 (by simp) ?_
  simp only [argsFr, List.zipIdx_cons, List.zipIdx_nil, go_sem]
  repeat' (first | refine awp_seqK fun K hK => ?_ | (refine awp_regionK 11 rfl ?_; simp only [List.map_cons, List.map_nil]; simp (maxSteps := 1000000) (dsimp := false) (implicitDefEqProofs := false) (disch := omega) only [wrap64, go_sem]) | (refine awp_regionQK 11 (by kernel_rfl) (by kernel_rfl) (by kernel_rfl) ?_; simp only [List.map_cons, List.map_nil]; simp (maxSteps := 1000000) (dsimp := false) (implicitDefEqProofs := false) (disch := omega) only [wrap64, go_sem]) | refine awp_block ?_ | (refine awp_skip ?_; simp only [go_sem]) | (refine awp_exit ?_; simp only [go_sem]) | (refine awp_ret ?_; try simp only [go_sem]) | (refine awp_condP rfl ?_; try simp only [go_sem]) | (refine BrP.mk (fun h => ?_) (fun h => ?_) <;> try simp (dsimp := false) (disch := omega) only [wrap64]) | (refine Br.mk (fun h => ?_) (fun h => ?_) <;> try simp (dsimp := false) (disch := omega) only [wrap64]) | refine Ob.mk (by first | omega | (intro _ _; rfl) | trivial | (intros; trivial) | assumption | (intro i hi; have h0 : i = 0 := (by omega); subst h0; first | rfl | trivial) | (intro i hi; have h0 : i = 0 ∨ i = 1 := (by omega); rcases h0 with rfl | rfl <;> rfl) | (intro i hi; have h0 : i = 0 ∨ i = 1 ∨ i = 2 := (by omega); rcases h0 with rfl | rfl | rfl <;> rfl)) ?_ | ((first | ((first | refine atF (f := 107) ?_ | refine atQ (f := 107) ?_); (first | (refine cV (hac := samePartition_ok b c (by omega) (fun j => by have := hb2.h j; omega)) (hK := ?_)) | (refine cQV (hac := samePartition_ok b c (by omega) (fun j => by have := hb2.h j; omega)) (hK := ?_))))); simp (maxSteps := 1000000) (dsimp := false) (implicitDefEqProofs := false) (disch := omega) only [wrap64, go_sem]) | apply_assumption -exfalso -symm)
  all_goals (first | (show endQ _ _ _ _ _ _ _; (repeat (rename (∀ (A : Fr) (H : Hp), AWP _ _ _ _ A H → _) => hK; clear hK)); (repeat (rename (Fr → Hp → Prop) => K; clear K))) | (show Exists _; (repeat (rename (∀ (A : Fr) (H : Hp), AWP _ _ _ _ A H → _) => hK; clear hK)); (repeat (rename (Fr → Hp → Prop) => K; clear K))) | skip)
  exact end_retV rfl rfl
/-- The systems found when k points have been tried. -/
noncomputable def msP (n : Nat) (gs : List (List Int)) : Nat → List (List (List Int))
  | 0 => []
  | k + 1 => if (parts (Cg gs (bbP 0 (k + 1))) n).length = 1 ∨ parts (Cg gs (bbP 0 (k + 1))) n ∈ msP n gs k then msP n gs k else msP n gs k ++ [parts (Cg gs (bbP 0 (k + 1))) n]
theorem msP_len (n : Nat) (gs : List (List Int)) : ∀ k, (msP n gs k).length ≤ k
  | 0 => Nat.le_refl _
  | k + 1 => by
    have := msP_len n gs k
    unfold msP
    split
    · omega
    · rw [List.length_append, List.length_singleton]; omega
theorem msP_mem (n : Nat) (gs : List (List Int)) : ∀ k b, b ∈ msP n gs k → ∃ y, b = parts (Cg gs (bbP 0 y)) n
  | 0, b, h => by cases h
  | k + 1, b, h => by
    unfold msP at h
    split at h
    · exact msP_mem n gs k b h
    · rcases List.mem_append.1 h with h | h
      · exact msP_mem n gs k b h
      · exact ⟨k + 1, List.mem_singleton.1 h⟩
theorem msP_bl {n : Nat} (hn : n ≤ 20) (gs : List (List Int)) (k j : Nat) : blQ ((msP n gs k).getD j []) := by
  by_cases hj : j < (msP n gs k).length
  · have hm : (msP n gs k).getD j [] ∈ msP n gs k := by rw [List.getD_eq_getElem?_getD, List.getElem?_eq_getElem hj]; exact List.getElem_mem hj
    obtain ⟨y, e⟩ := msP_mem n gs k _ hm
    rw [e]; exact parts_bl hn _
  · rw [List.getD_eq_getElem?_getD, List.getElem?_eq_none (by omega)]
    exact ⟨Nat.zero_le _, fun j => by simp⟩
theorem parts_pos {n : Nat} (hn : 1 ≤ n) (gs : List (List Int)) (B : Nat → Nat → Prop) : 1 ≤ (parts (Cg gs B) n).length := by
  obtain ⟨b, hb, _⟩ := (Go.Pm.Cg.eqv n gs B).part.all 0 hn
  exact List.length_pos_of_mem hb
theorem ap_i3 (xs : List (List (List Int))) (y : List (List Int)) : ∀ i, i < xs.length + 1 → apF xs.length (cM intss [] xs) (setF (zF [.slice none 0 0]) 0 (intss y)) i = cM intss [] (xs ++ [y]) i := fun i hi => by
  by_cases h : i < xs.length
  · simp [apF, cM, List.getD_eq_getElem?_getD, List.getElem?_append, h]
  · have e : i = xs.length := by omega
    subst e
    simp [apF, setF, cM, List.getD_eq_getElem?_getD]
theorem fits_i3 {H : Hp} {D : Nat → Prop} {h n : Nat} {ws : List (List (List Int))} (hH : H h = some (.cells n (cM intss [] ws))) (hD : D h) (hn : n = ws.length) : Fits H D (.own h 0 1 n) (i3 ws) := by
  subst hn
  exact .own hH hD (by omega) (fun _ _ => trivial) fun i _ => by rw [Nat.zero_add]; exact .refl _
theorem specMBS_ok (n : Nat) (gs : List (List Int)) (hok : isGens (n : Int) gs) : AC Try.prog 41 [.v (.int .i64 ((n : Nat))), intss gs] Hp.emp (fun _ => false) (retV (i3 (msP n gs (n - 1)))) := by
  have hd : decide (isGens (n : Int) gs) = true := decide_eq_true hok
  obtain ⟨_, h2, h3⟩ := gens_pm hok
  refine ac_of_awp (N := ⟨_, fun _ => false, fun _ _ => rfl⟩) Try.func41 rfl (by kernel_rfl) Try.ntmps41 (by simp) ?_
  simp only [argsFr, List.zipIdx_cons, List.zipIdx_nil, go_sem]
  repeat' (first | refine awp_seqK fun K hK => ?_ | (refine awp_regionK 17594333791219 rfl ?_; simp only [List.map_cons, List.map_nil]; simp (maxSteps := 1000000) (dsimp := false) (implicitDefEqProofs := false) (disch := omega) only [wrap64, go_sem]) | (refine awp_regionQK 17594333791219 (by kernel_rfl) (by kernel_rfl) (by kernel_rfl) ?_; simp only [List.map_cons, List.map_nil]; simp (maxSteps := 1000000) (dsimp := false) (implicitDefEqProofs := false) (disch := omega) only [wrap64, go_sem]) | refine awp_block ?_ | (refine awp_skip ?_; simp only [go_sem]) | (refine awp_exit ?_; simp only [go_sem]) | (refine awp_ret ?_; try simp only [go_sem]) | (refine awp_condP rfl ?_; try simp only [go_sem]) | (refine BrP.mk (fun h => ?_) (fun h => ?_) <;> try simp (dsimp := false) (disch := omega) only [wrap64]) | (refine Br.mk (fun h => ?_) (fun h => ?_) <;> try simp (dsimp := false) (disch := omega) only [wrap64]) | refine Ob.mk (by first | omega | (intro _ _; rfl) | trivial | (intros; trivial) | assumption | (intro i hi; have h0 : i = 0 := (by omega); subst h0; first | rfl | trivial) | (intro i hi; have h0 : i = 0 ∨ i = 1 := (by omega); rcases h0 with rfl | rfl <;> rfl) | (intro i hi; have h0 : i = 0 ∨ i = 1 ∨ i = 2 := (by omega); rcases h0 with rfl | rfl | rfl <;> rfl)) ?_ | apply_assumption -exfalso -symm)
  all_goals (first | (show endQ _ _ _ _ _ _ _; (repeat (rename (∀ (A : Fr) (H : Hp), AWP _ _ _ _ A H → _) => hK; clear hK)); (repeat (rename (Fr → Hp → Prop) => K; clear K))) | (show Exists _; (repeat (rename (∀ (A : Fr) (H : Hp), AWP _ _ _ _ A H → _) => hK; clear hK)); (repeat (rename (Fr → Hp → Prop) => K; clear K))) | skip)
  refine awp_loop (ι := Nat) (fun k => [(6, .v (.int .i64 (((k : Nat) : Int) + 1))), (5, .own 10 0 1 (msP n gs k).length), (0, .v (.int .i64 ((n : Nat)))), (1, .list false 1 (gs).length (cM ints [] (gs)))]) (fun k => Hp.emp.upd 10 (.cells (msP n gs k).length (cM intss [] (msP n gs k)))) (fun k => k ≤ n - 1) (fun k => n - 1 - k) 0 (Nat.zero_le _) ?_ ?_
  · exact Sub.toFF (fun _ => False) (Fr.fit_cons rfl (.refl _) (Fr.fit_cons rfl (.refl _) (Fr.fit_cons rfl (.refl _) (Fr.fit_cons rfl (.refl _) (Fr.fit_nil _))))) (leF_upd rfl (bfE rfl (fun i hi => absurd hi (Nat.not_lt_zero _))) leF_emp id)
  intro k hk
  have hml := msP_len n gs k
  have hbl := Hold.mk (msP_bl (by omega : n ≤ 20) gs k)
  repeat' (first | refine awp_seqK fun K hK => ?_ | (refine awp_regionK 17594333791219 rfl ?_; simp only [List.map_cons, List.map_nil]; simp (maxSteps := 1000000) (dsimp := false) (implicitDefEqProofs := false) (disch := omega) only [wrap64, go_sem, hd]) | (refine awp_regionQK 17594333791219 (by kernel_rfl) (by kernel_rfl) (by kernel_rfl) ?_; simp only [List.map_cons, List.map_nil]; simp (maxSteps := 1000000) (dsimp := false) (implicitDefEqProofs := false) (disch := omega) only [wrap64, go_sem, hd]) | refine awp_block ?_ | (refine awp_skip ?_; simp only [go_sem, hd]) | (refine awp_exit ?_; simp only [go_sem, hd]) | (refine awp_ret ?_; try simp only [go_sem, hd]) | (refine awp_condP rfl ?_; try simp only [go_sem, hd]) | (refine BrP.mk (fun h => ?_) (fun h => ?_) <;> try simp (dsimp := false) (disch := omega) only [wrap64]) | (refine Br.mk (fun h => ?_) (fun h => ?_) <;> try simp (dsimp := false) (disch := omega) only [wrap64]) | refine Ob.mk (by first | omega | (intro _ _; rfl) | trivial | (intros; trivial) | assumption | (intro i hi; have h0 : i = 0 := (by omega); subst h0; first | rfl | trivial) | (intro i hi; have h0 : i = 0 ∨ i = 1 := (by omega); rcases h0 with rfl | rfl <;> rfl) | (intro i hi; have h0 : i = 0 ∨ i = 1 ∨ i = 2 := (by omega); rcases h0 with rfl | rfl | rfl <;> rfl)) ?_ | ((first | ((first | refine atF (f := 27) ?_ | refine atQ (f := 27) ?_); (first | (refine cV (hac := specIsGeneratorSet_ok (n : Int) gs) (hK := ?_)) | (refine cQV (hac := specIsGeneratorSet_ok (n : Int) gs) (hK := ?_)))) | ((first | refine atF (f := 95) ?_ | refine atQ (f := 95) ?_); (refine cR (hac := specMinimalBlocksI_ok (n : Int) gs 0 ((k : Nat) + 1) hok (by omega) (by omega)) (hK := ?_)))); simp (maxSteps := 1000000) (dsimp := false) (implicitDefEqProofs := false) (disch := omega) only [wrap64, go_sem, hd]) | apply_assumption -exfalso -symm)
  all_goals (first | (show endQ _ _ _ _ _ _ _; (repeat (rename (∀ (A : Fr) (H : Hp), AWP _ _ _ _ A H → _) => hK; clear hK)); (repeat (rename (Fr → Hp → Prop) => K; clear K))) | (show Exists _; (repeat (rename (∀ (A : Fr) (H : Hp), AWP _ _ _ _ A H → _) => hK; clear hK)); (repeat (rename (Fr → Hp → Prop) => K; clear K))) | skip)
  · obtain ⟨b, eb⟩ : ∃ b, b = parts (Cg gs (bbP 0 (k + 1))) n := ⟨_, rfl⟩
    rw [show (Int.toNat 0) = 0 from rfl, show (((k : Nat) : Int) + 1).toNat = k + 1 by omega, ← eb]
    have hsz : msP n gs (k + 1) = if b.length = 1 ∨ b ∈ msP n gs k then msP n gs k else msP n gs k ++ [b] := by rw [eb]; rfl
    refine awp_loop (ι := Nat × Bool) (fun z => [(9, .v (.int .i64 ((z.1 : Nat)))), (8, .v (.bool (z.2))), (7, .list false 1 (b).length (cM ints [] (b))), (6, .v (.int .i64 (((k : Nat) : Int) + 1))), (5, .own 10 0 1 (msP n gs k).length), (0, .v (.int .i64 ((n : Nat)))), (1, .list false 1 (gs).length (cM ints [] (gs)))]) (fun _ => Hp.emp.upd 10 (.cells (msP n gs k).length (cM intss [] (msP n gs k)))) (fun z => z.1 ≤ (msP n gs k).length ∧ Hold (z.2 = true ↔ b.length = 1 ∨ ∃ j, j < z.1 ∧ (msP n gs k).getD j [] = b)) (fun z => (msP n gs k).length - z.1) (0, decide ((b.length : Int) = 1)) ⟨Nat.zero_le _, ⟨by
      rw [decide_eq_true_eq]
      exact ⟨fun h => .inl (by omega), fun h => h.elim (fun h => by omega) fun ⟨j, hj, _⟩ => absurd hj (Nat.not_lt_zero _)⟩⟩⟩ (Sub.toL (by simp only [go_sem] <;> first | trivial | (simp only [Option.some.injEq, AV.v.injEq, AV.own.injEq, AV.list.injEq, Value.int.injEq, Value.bool.injEq, true_and, and_true]; first | omega | (simp; done)) | (simp; done) | (simp; omega)) (Hp.le_refl _)) ?_
    rintro ⟨i, kn⟩ ⟨hi, hv⟩
    dsimp only at hi hv ⊢
    have hbi := (hbl.h i).1
    have hbr := Hold.mk (hbl.h i).2
    repeat' (first | refine awp_seqK fun K hK => ?_ | (refine awp_regionK 17594333791219 rfl ?_; simp only [List.map_cons, List.map_nil]; simp (maxSteps := 1000000) (dsimp := false) (implicitDefEqProofs := false) (disch := omega) only [wrap64, go_sem]) | (refine awp_regionQK 17594333791219 (by kernel_rfl) (by kernel_rfl) (by kernel_rfl) ?_; simp only [List.map_cons, List.map_nil]; simp (maxSteps := 1000000) (dsimp := false) (implicitDefEqProofs := false) (disch := omega) only [wrap64, go_sem]) | refine awp_block ?_ | (refine awp_skip ?_; simp only [go_sem]) | (refine awp_exit ?_; simp only [go_sem]) | (refine awp_ret ?_; try simp only [go_sem]) | (refine awp_condP rfl ?_; try simp only [go_sem]) | (refine BrP.mk (fun h => ?_) (fun h => ?_) <;> try simp (dsimp := false) (disch := omega) only [wrap64]) | (refine Br.mk (fun h => ?_) (fun h => ?_) <;> try simp (dsimp := false) (disch := omega) only [wrap64]) | refine Ob.mk (by first | omega | (intro _ _; rfl) | trivial | (intros; trivial) | assumption | (intro i hi; have h0 : i = 0 := (by omega); subst h0; first | rfl | trivial) | (intro i hi; have h0 : i = 0 ∨ i = 1 := (by omega); rcases h0 with rfl | rfl <;> rfl) | (intro i hi; have h0 : i = 0 ∨ i = 1 ∨ i = 2 := (by omega); rcases h0 with rfl | rfl | rfl <;> rfl)) ?_ | ((first | ((first | refine atF (f := 108) ?_ | refine atQ (f := 108) ?_); (first | (refine cV (hac := equalPartitions_ok ((msP n gs k).getD i []) b (by omega) (fun j => by have := hbr.h j; omega)) (hK := ?_)) | (refine cQV (hac := equalPartitions_ok ((msP n gs k).getD i []) b (by omega) (fun j => by have := hbr.h j; omega)) (hK := ?_))))); simp (maxSteps := 1000000) (dsimp := false) (implicitDefEqProofs := false) (disch := omega) only [wrap64, go_sem]) | apply_assumption -exfalso -symm)
    all_goals (first | (show endQ _ _ _ _ _ _ _; (repeat (rename (∀ (A : Fr) (H : Hp), AWP _ _ _ _ A H → _) => hK; clear hK)); (repeat (rename (Fr → Hp → Prop) => K; clear K))) | (show Exists _; (repeat (rename (∀ (A : Fr) (H : Hp), AWP _ _ _ _ A H → _) => hK; clear hK)); (repeat (rename (Fr → Hp → Prop) => K; clear K))) | skip)
    · have hkn : kn = true := by assumption
      refine ⟨(i + 1, true), ⟨by dsimp only; omega, ⟨⟨fun _ => ?_, fun _ => rfl⟩⟩⟩, by dsimp only; omega, Sub.toL (by simp only [go_sem] <;> first | trivial | (simp only [Option.some.injEq, AV.v.injEq, AV.own.injEq, AV.list.injEq, Value.int.injEq, Value.bool.injEq, true_and, and_true]; first | omega | (simp; done)) | (simp; done) | (simp; omega)) (Hp.le_refl _)⟩
      rcases hv.h.1 hkn with h | ⟨j, hj, e⟩
      · exact .inl h
      · exact .inr ⟨j, by dsimp only; omega, e⟩
    · have hkn : kn = false := by assumption
      have hnot : ¬ (b.length = 1 ∨ ∃ j, j < i ∧ (msP n gs k).getD j [] = b) := fun h => by rw [hv.h.2 h] at hkn; cases hkn
      refine ⟨(i + 1, decide ((msP n gs k).getD i [] = b)), ⟨by dsimp only; omega, ⟨?_⟩⟩, by dsimp only; omega, Sub.toL (by simp only [go_sem] <;> first | trivial | (simp only [Option.some.injEq, AV.v.injEq, AV.own.injEq, AV.list.injEq, Value.int.injEq, Value.bool.injEq, true_and, and_true]; first | omega | (simp; done)) | (simp; done) | (simp; omega)) (Hp.le_refl _)⟩
      dsimp only
      rw [decide_eq_true_eq]
      refine ⟨fun h => .inr ⟨i, by omega, h⟩, fun h => ?_⟩
      rcases h with h | ⟨j, hj, e⟩
      · exact absurd (.inl h) hnot
      · by_cases e2 : j = i
        · rw [← e2]; exact e
        · exact absurd (.inr ⟨j, by omega, e⟩) hnot
    · have hkn : kn = true := by assumption
      have hin : b.length = 1 ∨ b ∈ msP n gs k := by
        rcases hv.h.1 hkn with h | ⟨j, hj, e⟩
        · exact .inl h
        · exact .inr (by rw [← e]; exact List.getD_eq_getElem?_getD ▸ (by rw [List.getElem?_eq_getElem (show j < (msP n gs k).length by omega)]; exact List.getElem_mem _))
      rw [if_pos hin] at hsz
      refine ⟨k + 1, by omega, by omega, ?_⟩
      rw [hsz]
      exact Sub.toL (by simp only [go_sem] <;> first | trivial | (simp only [Option.some.injEq, AV.v.injEq, AV.own.injEq, AV.list.injEq, Value.int.injEq, Value.bool.injEq, true_and, and_true]; first | omega | (simp; done)) | (simp; done) | (simp; omega)) (Hp.le_refl _)
    · have hkn : kn = false := by assumption
      have hin : ¬ (b.length = 1 ∨ b ∈ msP n gs k) := fun h => by
        rw [hv.h.2 (h.elim .inl fun h => by
          obtain ⟨j, hj, e⟩ := List.getElem_of_mem h
          exact .inr ⟨j, by omega, by rw [List.getD_eq_getElem?_getD, List.getElem?_eq_getElem hj]; exact e⟩)] at hkn
        cases hkn
      rw [if_neg hin] at hsz
      refine ⟨k + 1, by omega, by omega, ?_⟩
      have e1 : (msP n gs (k + 1)).length = (msP n gs k).length + 1 := by rw [hsz, List.length_append, List.length_singleton]
      rw [e1, hsz]
      refine Sub.toFF (fun _ => False) (Fr.fit_cons rfl (.refl _) (Fr.fit_cons rfl (.refl _) (Fr.fit_cons rfl (.refl _) (Fr.fit_cons rfl (.refl _) (Fr.fit_nil _))))) (leF_upd rfl (bfE rfl (fun i hi => ?_)) leF_emp id)
      exact ap_i3 (msP n gs k) b i (by omega)
  · have ek : k = n - 1 := by omega
    rw [ek]
    exact end_retF rfl rfl (fits_i3 rfl trivial rfl)
theorem implMinimalBlocksI_ok (n : Int) (gs : List (List Int)) (x y : Int) (hok : isGens n gs) (hx : 0 ≤ x ∧ x < n) (hy : 0 ≤ y ∧ y < n) : AC Try.prog 93 [.v (.int .i64 (n)), intss gs, .v (.int .i64 (x)), .v (.int .i64 (y))] Hp.emp (fun _ => false) (retV (intss (parts (Cg gs (bbP x.toNat y.toNat)) n.toNat))) := by
  obtain ⟨_, h2, h3⟩ := gens_pm hok
  have hA := implMinimalBlocks_ok n.toNat gs x.toNat y.toNat (by rw [show ((n.toNat : Nat) : Int) = n by omega]; exact hok) (by omega) (by omega)
  rwa [show ((n.toNat : Nat) : Int) = n by omega, show ((x.toNat : Nat) : Int) = x by omega, show ((y.toNat : Nat) : Int) = y by omega] at hA
theorem fits_ref7 {H : Hp} {D : Nat → Prop} {h : Nat} {b : List (List Int)} {z : Nat → AV} (hH : H h = some (.cells 1 (setF z 0 (intss b)))) (hD : D h) : Fits H D (.ref h 0) (.ptr 1 (fun _ => intss b)) :=
  .ref hH hD (by omega) (fun _ _ => trivial) fun i hi => by
    have : i = 0 := by omega
    subst this; exact .refl _
theorem implMBS_ok (n : Nat) (gs : List (List Int)) (hok : isGens (n : Int) gs) : AC Try.prog 40 [.v (.int .i64 ((n : Nat))), intss gs] Hp.emp (fun _ => false) (retV (i3 (msP n gs (n - 1)))) := by
  have hd : decide (isGens (n : Int) gs) = true := decide_eq_true hok
  obtain ⟨_, h2, h3⟩ := gens_pm hok
  refine ac_of_awp (N := ⟨_, fun _ => false, fun _ _ => rfl⟩) Try.func40 rfl (by kernel_rfl) Try.ntmps40 (by simp) ?_
  simp only [argsFr, List.zipIdx_cons, List.zipIdx_nil, go_sem]
  repeat' (first | refine awp_seqK fun K hK => ?_ | (refine awp_regionK 536889587 rfl ?_; simp only [List.map_cons, List.map_nil]; simp (maxSteps := 1000000) (dsimp := false) (implicitDefEqProofs := false) (disch := omega) only [wrap64, go_sem, hd]) | (refine awp_regionQK 536889587 (by kernel_rfl) (by kernel_rfl) (by kernel_rfl) ?_; simp only [List.map_cons, List.map_nil]; simp (maxSteps := 1000000) (dsimp := false) (implicitDefEqProofs := false) (disch := omega) only [wrap64, go_sem, hd]) | refine awp_block ?_ | (refine awp_skip ?_; simp only [go_sem, hd]) | (refine awp_exit ?_; simp only [go_sem, hd]) | (refine awp_ret ?_; try simp only [go_sem, hd]) | (refine awp_condP rfl ?_; try simp only [go_sem, hd]) | (refine BrP.mk (fun h => ?_) (fun h => ?_) <;> try simp (dsimp := false) (disch := omega) only [wrap64]) | (refine Br.mk (fun h => ?_) (fun h => ?_) <;> try simp (dsimp := false) (disch := omega) only [wrap64]) | refine Ob.mk (by first | omega | (intro _ _; rfl) | trivial | (intros; trivial) | assumption | (intro i hi; have h0 : i = 0 := (by omega); subst h0; first | rfl | trivial) | (intro i hi; have h0 : i = 0 ∨ i = 1 := (by omega); rcases h0 with rfl | rfl <;> rfl) | (intro i hi; have h0 : i = 0 ∨ i = 1 ∨ i = 2 := (by omega); rcases h0 with rfl | rfl | rfl <;> rfl)) ?_ | ((first | ((first | refine atF (f := 76) ?_ | refine atQ (f := 76) ?_); (first | (refine cV (hac := implIsGeneratorSet_ok (n : Int) gs) (hK := ?_)) | (refine cQV (hac := implIsGeneratorSet_ok (n : Int) gs) (hK := ?_))))); simp (maxSteps := 1000000) (dsimp := false) (implicitDefEqProofs := false) (disch := omega) only [wrap64, go_sem, hd]) | apply_assumption -exfalso -symm)
  all_goals (first | (show endQ _ _ _ _ _ _ _; (repeat (rename (∀ (A : Fr) (H : Hp), AWP _ _ _ _ A H → _) => hK; clear hK)); (repeat (rename (Fr → Hp → Prop) => K; clear K))) | (show Exists _; (repeat (rename (∀ (A : Fr) (H : Hp), AWP _ _ _ _ A H → _) => hK; clear hK)); (repeat (rename (Fr → Hp → Prop) => K; clear K))) | skip)
  refine awp_loop (ι := Nat) (fun k => [(6, .v (.int .i64 (((k : Nat) : Int) + 1))), (5, .own 60 0 1 (msP n gs k).length), (0, .v (.int .i64 ((n : Nat)))), (1, .list false 1 (gs).length (cM ints [] (gs)))]) (fun k => Hp.emp.upd 60 (.cells (msP n gs k).length (cM intss [] (msP n gs k)))) (fun k => k ≤ n - 1) (fun k => n - 1 - k) 0 (Nat.zero_le _) ?_ ?_
  · exact Sub.trans (Sub.nil (i := 5) 60 1 (cM intss [] []) rfl rfl) (Sub.toFF (fun _ => False) (Fr.fit_cons rfl (.refl _) (Fr.fit_cons rfl (.refl _) (Fr.fit_cons rfl (.refl _) (Fr.fit_cons rfl (.refl _) (Fr.fit_nil _))))) (leF_upd rfl (bfE rfl (fun i hi => absurd hi (Nat.not_lt_zero _))) leF_emp id))
  intro k hk
  have hml := msP_len n gs k
  have hbl := Hold.mk (msP_bl (by omega : n ≤ 20) gs k)
  obtain ⟨b, eb⟩ : ∃ b, b = parts (Cg gs (bbP 0 (k + 1))) n := ⟨_, rfl⟩
  have hsz : msP n gs (k + 1) = if b.length = 1 ∨ b ∈ msP n gs k then msP n gs k else msP n gs k ++ [b] := by rw [eb]; rfl
  have hmb := Hold.mk (fun h : (k : Int) + 1 < n => implMinimalBlocksI_ok (n : Int) gs 0 ((k : Nat) + 1) hok (by omega) (by omega))
  rw [show (Int.toNat 0) = 0 from rfl, show (((k : Nat) : Int) + 1).toNat = k + 1 by omega, Int.toNat_natCast, ← eb] at hmb
  have hpos : 1 ≤ b.length := by rw [eb]; exact parts_pos (by omega) gs _
  have hcf := containsFunc3_ok (msP n gs k) 106 (.ptr 1 (fun _ => intss b)) (fun c => decide (c = b)) (by omega) (fun j hj => mbsClo_ok _ b (hbl.h j))
  have hcf := Hold.mk hcf
  repeat' (first | refine awp_seqK fun K hK => ?_ | (refine awp_regionK 536889587 rfl ?_; simp only [List.map_cons, List.map_nil]; simp (maxSteps := 1000000) (dsimp := false) (implicitDefEqProofs := false) (disch := omega) only [wrap64, go_sem]) | (refine awp_regionQK 536889587 (by kernel_rfl) (by kernel_rfl) (by kernel_rfl) ?_; simp only [List.map_cons, List.map_nil]; simp (maxSteps := 1000000) (dsimp := false) (implicitDefEqProofs := false) (disch := omega) only [wrap64, go_sem]) | refine awp_block ?_ | (refine awp_skip ?_; simp only [go_sem]) | (refine awp_exit ?_; simp only [go_sem]) | (refine awp_ret ?_; try simp only [go_sem]) | (refine awp_condP rfl ?_; try simp only [go_sem]) | (refine BrP.mk (fun h => ?_) (fun h => ?_) <;> try simp (dsimp := false) (disch := omega) only [wrap64]) | (refine Br.mk (fun h => ?_) (fun h => ?_) <;> try simp (dsimp := false) (disch := omega) only [wrap64]) | refine Ob.mk (by first | omega | (intro _ _; rfl) | trivial | (intros; trivial) | assumption | (intro i hi; have h0 : i = 0 := (by omega); subst h0; first | rfl | trivial) | (intro i hi; have h0 : i = 0 ∨ i = 1 := (by omega); rcases h0 with rfl | rfl <;> rfl) | (intro i hi; have h0 : i = 0 ∨ i = 1 ∨ i = 2 := (by omega); rcases h0 with rfl | rfl | rfl <;> rfl)) ?_ | ((first | (refine cR (hac := hmb.h (by omega)) (hK := ?_)) | (refine cQR (hac := hmb.h (by omega)) (hK := ?_)) | ((first | refine atF (f := 105) ?_ | refine atQ (f := 105) ?_); (refine cV (hfit := .cons (fits_i3 rfl trivial rfl) (.cons (fits_clo1 (fits_ref7 rfl trivial)) .nil)) (hac := hcf.h) (hK := ?_)))); simp (maxSteps := 1000000) (dsimp := false) (implicitDefEqProofs := false) (disch := omega) only [wrap64, go_sem]) | apply_assumption -exfalso -symm)
  all_goals (first | (show endQ _ _ _ _ _ _ _; (repeat (rename (∀ (A : Fr) (H : Hp), AWP _ _ _ _ A H → _) => hK; clear hK)); (repeat (rename (Fr → Hp → Prop) => K; clear K))) | (show Exists _; (repeat (rename (∀ (A : Fr) (H : Hp), AWP _ _ _ _ A H → _) => hK; clear hK)); (repeat (rename (Fr → Hp → Prop) => K; clear K))) | skip)
  · have hin : b.length = 1 ∨ b ∈ msP n gs k := .inr (by
      have h9 : ((msP n gs k).any fun c => decide (c = b)) = true := by assumption
      rw [List.any_eq_true] at h9
      obtain ⟨c, hc, e⟩ := h9
      rw [decide_eq_true_eq] at e
      rw [← e]; exact hc)
    rw [if_pos hin] at hsz
    refine ⟨k + 1, by omega, by omega, ?_⟩
    rw [hsz]
    exact Sub.toL (by simp only [go_sem] <;> first | trivial | (simp only [Option.some.injEq, AV.v.injEq, AV.own.injEq, AV.list.injEq, Value.int.injEq, Value.bool.injEq, true_and, and_true]; first | omega | (simp; done)) | (simp; done) | (simp; omega)) (by (repeat' (first | exact Hp.le_emp _ | exact Hp.le_refl _ | refine Hp.le_upd ?_ ?_)); all_goals (first | rfl | (simp only [go_sem]; first | rfl | (refine cellsE ?_ ?_ <;> (simp)) | (simp))))
  · have hin : ¬ (b.length = 1 ∨ b ∈ msP n gs k) := fun h => by
      rcases h with h | h
      · omega
      · have h9 : ((msP n gs k).any fun c => decide (c = b)) = false := by assumption
        rw [List.any_eq_false] at h9
        exact h9 b h (decide_eq_true rfl)
    rw [if_neg hin] at hsz
    refine ⟨k + 1, by omega, by omega, ?_⟩
    have e1 : (msP n gs (k + 1)).length = (msP n gs k).length + 1 := by rw [hsz, List.length_append, List.length_singleton]
    rw [e1, hsz]
    refine Sub.toFF (fun _ => False) (Fr.fit_cons rfl (.refl _) (Fr.fit_cons rfl (.refl _) (Fr.fit_cons rfl (.refl _) (Fr.fit_cons rfl (.refl _) (Fr.fit_nil _))))) (leF_upd rfl (bfE rfl (fun i hi => ?_)) leF_emp id)
    exact ap_i3 (msP n gs k) b i (by omega)
  · have hin : b.length = 1 ∨ b ∈ msP n gs k := .inl (by omega)
    rw [if_pos hin] at hsz
    refine ⟨k + 1, by omega, by omega, ?_⟩
    rw [hsz]
    exact Sub.toL (by simp only [go_sem] <;> first | trivial | (simp only [Option.some.injEq, AV.v.injEq, AV.own.injEq, AV.list.injEq, Value.int.injEq, Value.bool.injEq, true_and, and_true]; first | omega | (simp; done)) | (simp; done) | (simp; omega)) (by (repeat' (first | exact Hp.le_emp _ | exact Hp.le_refl _ | refine Hp.le_upd ?_ ?_)); all_goals (first | rfl | (simp only [go_sem]; first | rfl | (refine cellsE ?_ ?_ <;> (simp)) | (simp))))
  · have ek : k = n - 1 := by omega
    rw [ek]
    exact end_retF rfl rfl (fits_i3 rfl trivial rfl)
/-- What MinimalBlockSystems answers. -/
noncomputable def mssP (n : Int) (gs : List (List Int)) : List (List (List Int)) := if isGens n gs then msP n.toNat gs (n.toNat - 1) else []
theorem specMinimalBlockSystems_ok (n : Int) (gs : List (List Int)) (hn : r64 n) : AC Try.prog 41 [.v (.int .i64 (n)), intss gs] Hp.emp (fun _ => false) (retV (i3 (mssP n gs))) := by
  by_cases hok : isGens n gs
  · obtain ⟨_, h2, h3⟩ := gens_pm hok
    rw [show mssP n gs = msP n.toNat gs (n.toNat - 1) from if_pos hok]
    have hA := specMBS_ok n.toNat gs (by rw [show ((n.toNat : Nat) : Int) = n by omega]; exact hok)
    rwa [show ((n.toNat : Nat) : Int) = n by omega] at hA
  · have hd : decide (isGens n gs) = false := decide_eq_false hok
    rw [show mssP n gs = [] from if_neg hok]
    refine ac_of_awp (N := ⟨_, fun _ => false, fun _ _ => rfl⟩) Try.func41 rfl (by kernel_rfl) Try.ntmps41 (by simp) ?_
    simp only [argsFr, List.zipIdx_cons, List.zipIdx_nil, go_sem]
    repeat' (first | refine awp_seqK fun K hK => ?_ | (refine awp_regionK 17594333791219 rfl ?_; simp only [List.map_cons, List.map_nil]; simp (maxSteps := 1000000) (dsimp := false) (implicitDefEqProofs := false) (disch := omega) only [wrap64, go_sem]) | (refine awp_regionQK 17594333791219 (by kernel_rfl) (by kernel_rfl) (by kernel_rfl) ?_; simp only [List.map_cons, List.map_nil]; simp (maxSteps := 1000000) (dsimp := false) (implicitDefEqProofs := false) (disch := omega) only [wrap64, go_sem]) | refine awp_block ?_ | (refine awp_skip ?_; simp only [go_sem]) | (refine awp_exit ?_; simp only [go_sem]) | (refine awp_ret ?_; try simp only [go_sem]) | (refine awp_condP rfl ?_; try simp only [go_sem]) | (refine BrP.mk (fun h => ?_) (fun h => ?_) <;> try simp (dsimp := false) (disch := omega) only [wrap64]) | (refine Br.mk (fun h => ?_) (fun h => ?_) <;> try simp (dsimp := false) (disch := omega) only [wrap64]) | refine Ob.mk (by first | omega | (intro _ _; rfl) | trivial | (intros; trivial) | assumption | (intro i hi; have h0 : i = 0 := (by omega); subst h0; first | rfl | trivial) | (intro i hi; have h0 : i = 0 ∨ i = 1 := (by omega); rcases h0 with rfl | rfl <;> rfl) | (intro i hi; have h0 : i = 0 ∨ i = 1 ∨ i = 2 := (by omega); rcases h0 with rfl | rfl | rfl <;> rfl)) ?_ | apply_assumption -exfalso -symm)
    all_goals (first | (show endQ _ _ _ _ _ _ _; (repeat (rename (∀ (A : Fr) (H : Hp), AWP _ _ _ _ A H → _) => hK; clear hK)); (repeat (rename (Fr → Hp → Prop) => K; clear K))) | (show Exists _; (repeat (rename (∀ (A : Fr) (H : Hp), AWP _ _ _ _ A H → _) => hK; clear hK)); (repeat (rename (Fr → Hp → Prop) => K; clear K))) | skip)
    refine awp_loop (ι := Nat) (fun _ => [(6, .v (.int .i64 (1))), (5, .own 10 0 1 0), (0, .v (.int .i64 (n))), (1, .list false 1 (gs).length (cM ints [] (gs)))]) (fun _ => Hp.emp.upd 10 (.cells 0 (cM intss [] []))) (fun _ => True) (fun k => k) 0 trivial ?_ ?_
    · exact Sub.toFF (fun _ => False) (Fr.fit_cons rfl (.refl _) (Fr.fit_cons rfl (.refl _) (Fr.fit_cons rfl (.refl _) (Fr.fit_cons rfl (.refl _) (Fr.fit_nil _))))) (leF_upd rfl (bfE rfl (fun i hi => absurd hi (Nat.not_lt_zero _))) leF_emp id)
    intro k _
    repeat' (first | refine awp_seqK fun K hK => ?_ | (refine awp_regionK 17594333791219 rfl ?_; simp only [List.map_cons, List.map_nil]; simp (maxSteps := 1000000) (dsimp := false) (implicitDefEqProofs := false) (disch := omega) only [wrap64, go_sem, hd]) | (refine awp_regionQK 17594333791219 (by kernel_rfl) (by kernel_rfl) (by kernel_rfl) ?_; simp only [List.map_cons, List.map_nil]; simp (maxSteps := 1000000) (dsimp := false) (implicitDefEqProofs := false) (disch := omega) only [wrap64, go_sem, hd]) | refine awp_block ?_ | (refine awp_skip ?_; simp only [go_sem, hd]) | (refine awp_exit ?_; simp only [go_sem, hd]) | (refine awp_ret ?_; try simp only [go_sem, hd]) | (refine awp_condP rfl ?_; try simp only [go_sem, hd]) | (refine BrP.mk (fun h => ?_) (fun h => ?_) <;> try simp (dsimp := false) (disch := omega) only [wrap64]) | (refine Br.mk (fun h => ?_) (fun h => ?_) <;> try simp (dsimp := false) (disch := omega) only [wrap64]) | refine Ob.mk (by first | omega | (intro _ _; rfl) | trivial | (intros; trivial) | assumption | (intro i hi; have h0 : i = 0 := (by omega); subst h0; first | rfl | trivial) | (intro i hi; have h0 : i = 0 ∨ i = 1 := (by omega); rcases h0 with rfl | rfl <;> rfl) | (intro i hi; have h0 : i = 0 ∨ i = 1 ∨ i = 2 := (by omega); rcases h0 with rfl | rfl | rfl <;> rfl)) ?_ | ((first | ((first | refine atF (f := 27) ?_ | refine atQ (f := 27) ?_); (first | (refine cV (hac := specIsGeneratorSet_ok n gs) (hK := ?_)) | (refine cQV (hac := specIsGeneratorSet_ok n gs) (hK := ?_))))); simp (maxSteps := 1000000) (dsimp := false) (implicitDefEqProofs := false) (disch := omega) only [wrap64, go_sem, hd]) | apply_assumption -exfalso -symm)
    all_goals (first | (show endQ _ _ _ _ _ _ _; (repeat (rename (∀ (A : Fr) (H : Hp), AWP _ _ _ _ A H → _) => hK; clear hK)); (repeat (rename (Fr → Hp → Prop) => K; clear K))) | (show Exists _; (repeat (rename (∀ (A : Fr) (H : Hp), AWP _ _ _ _ A H → _) => hK; clear hK)); (repeat (rename (Fr → Hp → Prop) => K; clear K))) | skip)
    all_goals exact end_retF rfl rfl (fits_i3 (ws := []) rfl trivial rfl)
theorem implMinimalBlockSystems_ok (n : Int) (gs : List (List Int)) : AC Try.prog 40 [.v (.int .i64 (n)), intss gs] Hp.emp (fun _ => false) (retV (i3 (mssP n gs))) := by
  by_cases hok : isGens n gs
  · obtain ⟨_, h2, h3⟩ := gens_pm hok
    rw [show mssP n gs = msP n.toNat gs (n.toNat - 1) from if_pos hok]
    have hA := implMBS_ok n.toNat gs (by rw [show ((n.toNat : Nat) : Int) = n by omega]; exact hok)
    rwa [show ((n.toNat : Nat) : Int) = n by omega] at hA
  · have hd : decide (isGens n gs) = false := decide_eq_false hok
    rw [show mssP n gs = [] from if_neg hok]
    refine ac_of_awp (N := ⟨_, fun _ => false, fun _ _ => rfl⟩) Try.func40 rfl (by kernel_rfl) Try.ntmps40 (by simp) ?_
    simp only [argsFr, List.zipIdx_cons, List.zipIdx_nil, go_sem]
    repeat' (first | refine awp_seqK fun K hK => ?_ | (refine awp_regionK 536889587 rfl ?_; simp only [List.map_cons, List.map_nil]; simp (maxSteps := 1000000) (dsimp := false) (implicitDefEqProofs := false) (disch := omega) only [wrap64, go_sem, hd]) | (refine awp_regionQK 536889587 (by kernel_rfl) (by kernel_rfl) (by kernel_rfl) ?_; simp only [List.map_cons, List.map_nil]; simp (maxSteps := 1000000) (dsimp := false) (implicitDefEqProofs := false) (disch := omega) only [wrap64, go_sem, hd]) | refine awp_block ?_ | (refine awp_skip ?_; simp only [go_sem, hd]) | (refine awp_exit ?_; simp only [go_sem, hd]) | (refine awp_ret ?_; try simp only [go_sem, hd]) | (refine awp_condP rfl ?_; try simp only [go_sem, hd]) | (refine BrP.mk (fun h => ?_) (fun h => ?_) <;> try simp (dsimp := false) (disch := omega) only [wrap64]) | (refine Br.mk (fun h => ?_) (fun h => ?_) <;> try simp (dsimp := false) (disch := omega) only [wrap64]) | refine Ob.mk (by first | omega | (intro _ _; rfl) | trivial | (intros; trivial) | assumption | (intro i hi; have h0 : i = 0 := (by omega); subst h0; first | rfl | trivial) | (intro i hi; have h0 : i = 0 ∨ i = 1 := (by omega); rcases h0 with rfl | rfl <;> rfl) | (intro i hi; have h0 : i = 0 ∨ i = 1 ∨ i = 2 := (by omega); rcases h0 with rfl | rfl | rfl <;> rfl)) ?_ | ((first | ((first | refine atF (f := 76) ?_ | refine atQ (f := 76) ?_); (first | (refine cV (hac := implIsGeneratorSet_ok n gs) (hK := ?_)) | (refine cQV (hac := implIsGeneratorSet_ok n gs) (hK := ?_))))); simp (maxSteps := 1000000) (dsimp := false) (implicitDefEqProofs := false) (disch := omega) only [wrap64, go_sem, hd]) | apply_assumption -exfalso -symm)
    all_goals (first | (show endQ _ _ _ _ _ _ _; (repeat (rename (∀ (A : Fr) (H : Hp), AWP _ _ _ _ A H → _) => hK; clear hK)); (repeat (rename (Fr → Hp → Prop) => K; clear K))) | (show Exists _; (repeat (rename (∀ (A : Fr) (H : Hp), AWP _ _ _ _ A H → _) => hK; clear hK)); (repeat (rename (Fr → Hp → Prop) => K; clear K))) | skip)
    exact end_retF rfl rfl .nil
theorem implIsPrimitive_ok (n : Int) (gs : List (List Int)) : AC Try.prog 42 [.v (.int .i64 (n)), intss gs] Hp.emp (fun _ => false) (retV (.v (.bool (decide ((orbP n gs).length = 1 ∧ (mssP n gs).length = 0))))) := by
  refine ac_of_awp (N := ⟨_, fun _ => false, fun _ _ => rfl⟩) Try.func42 rfl (by kernel_rfl) Try.ntmps42 (by simp) ?_
  simp only [argsFr, List.zipIdx_cons, List.zipIdx_nil, go_sem]
  repeat' (first | refine awp_seqK fun K hK => ?_ | (refine awp_regionK 19 rfl ?_; simp only [List.map_cons, List.map_nil]; simp (maxSteps := 1000000) (dsimp := false) (implicitDefEqProofs := false) (disch := omega) only [wrap64, go_sem]) | (refine awp_regionQK 19 (by kernel_rfl) (by kernel_rfl) (by kernel_rfl) ?_; simp only [List.map_cons, List.map_nil]; simp (maxSteps := 1000000) (dsimp := false) (implicitDefEqProofs := false) (disch := omega) only [wrap64, go_sem]) | refine awp_block ?_ | (refine awp_skip ?_; simp only [go_sem]) | (refine awp_exit ?_; simp only [go_sem]) | (refine awp_ret ?_; try simp only [go_sem]) | (refine awp_condP rfl ?_; try simp only [go_sem]) | (refine BrP.mk (fun h => ?_) (fun h => ?_) <;> try simp (dsimp := false) (disch := omega) only [wrap64]) | (refine Br.mk (fun h => ?_) (fun h => ?_) <;> try simp (dsimp := false) (disch := omega) only [wrap64]) | refine Ob.mk (by first | omega | (intro _ _; rfl) | trivial | (intros; trivial) | assumption | (intro i hi; have h0 : i = 0 := (by omega); subst h0; first | rfl | trivial) | (intro i hi; have h0 : i = 0 ∨ i = 1 := (by omega); rcases h0 with rfl | rfl <;> rfl) | (intro i hi; have h0 : i = 0 ∨ i = 1 ∨ i = 2 := (by omega); rcases h0 with rfl | rfl | rfl <;> rfl)) ?_ | ((first | ((first | refine atF (f := 109) ?_ | refine atQ (f := 109) ?_); (first | (refine cV (hac := implIsTransitive_ok n gs) (hK := ?_)) | (refine cQV (hac := implIsTransitive_ok n gs) (hK := ?_)))) | ((first | refine atF (f := 40) ?_ | refine atQ (f := 40) ?_); (refine cR (hac := implMinimalBlockSystems_ok n gs) (hK := ?_)))); simp (maxSteps := 1000000) (dsimp := false) (implicitDefEqProofs := false) (disch := omega) only [wrap64, go_sem]) | apply_assumption -exfalso -symm)
  all_goals (first | (show endQ _ _ _ _ _ _ _; (repeat (rename (∀ (A : Fr) (H : Hp), AWP _ _ _ _ A H → _) => hK; clear hK)); (repeat (rename (Fr → Hp → Prop) => K; clear K))) | (show Exists _; (repeat (rename (∀ (A : Fr) (H : Hp), AWP _ _ _ _ A H → _) => hK; clear hK)); (repeat (rename (Fr → Hp → Prop) => K; clear K))) | skip)
  · exact end_retB rfl rfl (by rw [decide_eq_true_eq]; exact ⟨fun h => ⟨by assumption, by omega⟩, fun h => by have := h.2; omega⟩)
  · exact end_retB rfl rfl (by simp only [Bool.false_eq_true, false_iff]; rintro ⟨h, _⟩; omega)
theorem specIsTransitive_ok (n : Int) (gs : List (List Int)) : AC Try.prog 43 [.v (.int .i64 (n)), intss gs] Hp.emp (fun _ => false) (retV (.v (.bool (decide ((orbP n gs).length = 1))))) := by
  by_cases hok : isGens n gs
  · have hd : decide (isGens n gs) = true := decide_eq_true hok
    obtain ⟨g1, h2, h3⟩ := gens_pm hok
    have hA := specAllOrbits_ok n.toNat gs g1 (by omega) (by have := hok.2.1; omega)
    rw [show ((n.toNat : Nat) : Int) = n by omega, show partK n.toNat (Go.Pm.Rch gs) n.toNat = orbP n gs from (if_pos hok).symm] at hA
    refine ac_of_awp (N := ⟨_, fun _ => false, fun _ _ => rfl⟩) Try.func43 rfl (by kernel_rfl) Try.ntmps43 (by simp) ?_
    simp only [argsFr, List.zipIdx_cons, List.zipIdx_nil, go_sem]
    repeat' (first | refine awp_seqK fun K hK => ?_ | (refine awp_regionK 19 rfl ?_; simp only [List.map_cons, List.map_nil]; simp (maxSteps := 1000000) (dsimp := false) (implicitDefEqProofs := false) (disch := omega) only [wrap64, go_sem, hd]) | (refine awp_regionQK 19 (by kernel_rfl) (by kernel_rfl) (by kernel_rfl) ?_; simp only [List.map_cons, List.map_nil]; simp (maxSteps := 1000000) (dsimp := false) (implicitDefEqProofs := false) (disch := omega) only [wrap64, go_sem, hd]) | refine awp_block ?_ | (refine awp_skip ?_; simp only [go_sem, hd]) | (refine awp_exit ?_; simp only [go_sem, hd]) | (refine awp_ret ?_; try simp only [go_sem, hd]) | (refine awp_condP rfl ?_; try simp only [go_sem, hd]) | (refine BrP.mk (fun h => ?_) (fun h => ?_) <;> try simp (dsimp := false) (disch := omega) only [wrap64]) | (refine Br.mk (fun h => ?_) (fun h => ?_) <;> try simp (dsimp := false) (disch := omega) only [wrap64]) | refine Ob.mk (by first | omega | (intro _ _; rfl) | trivial | (intros; trivial) | assumption | (intro i hi; have h0 : i = 0 := (by omega); subst h0; first | rfl | trivial) | (intro i hi; have h0 : i = 0 ∨ i = 1 := (by omega); rcases h0 with rfl | rfl <;> rfl) | (intro i hi; have h0 : i = 0 ∨ i = 1 ∨ i = 2 := (by omega); rcases h0 with rfl | rfl | rfl <;> rfl)) ?_ | ((first | ((first | refine atF (f := 27) ?_ | refine atQ (f := 27) ?_); (first | (refine cV (hac := specIsGeneratorSet_ok n gs) (hK := ?_)) | (refine cQV (hac := specIsGeneratorSet_ok n gs) (hK := ?_)))) | (refine cR (hac := hA) (hK := ?_)) | (refine cQR (hac := hA) (hK := ?_))); simp (maxSteps := 1000000) (dsimp := false) (implicitDefEqProofs := false) (disch := omega) only [wrap64, go_sem, hd]) | apply_assumption -exfalso -symm)
    all_goals (first | (show endQ _ _ _ _ _ _ _; (repeat (rename (∀ (A : Fr) (H : Hp), AWP _ _ _ _ A H → _) => hK; clear hK)); (repeat (rename (Fr → Hp → Prop) => K; clear K))) | (show Exists _; (repeat (rename (∀ (A : Fr) (H : Hp), AWP _ _ _ _ A H → _) => hK; clear hK)); (repeat (rename (Fr → Hp → Prop) => K; clear K))) | skip)
    exact end_retB rfl rfl (by rw [decide_eq_true_eq]; omega)
  · have hd : decide (isGens n gs) = false := decide_eq_false hok
    refine ac_of_awp (N := ⟨_, fun _ => false, fun _ _ => rfl⟩) Try.func43 rfl (by kernel_rfl) Try.ntmps43 (by simp) ?_
    simp only [argsFr, List.zipIdx_cons, List.zipIdx_nil, go_sem]
    repeat' (first | refine awp_seqK fun K hK => ?_ | (refine awp_regionK 19 rfl ?_; simp only [List.map_cons, List.map_nil]; simp (maxSteps := 1000000) (dsimp := false) (implicitDefEqProofs := false) (disch := omega) only [wrap64, go_sem, hd]) | (refine awp_regionQK 19 (by kernel_rfl) (by kernel_rfl) (by kernel_rfl) ?_; simp only [List.map_cons, List.map_nil]; simp (maxSteps := 1000000) (dsimp := false) (implicitDefEqProofs := false) (disch := omega) only [wrap64, go_sem, hd]) | refine awp_block ?_ | (refine awp_skip ?_; simp only [go_sem, hd]) | (refine awp_exit ?_; simp only [go_sem, hd]) | (refine awp_ret ?_; try simp only [go_sem, hd]) | (refine awp_condP rfl ?_; try simp only [go_sem, hd]) | (refine BrP.mk (fun h => ?_) (fun h => ?_) <;> try simp (dsimp := false) (disch := omega) only [wrap64]) | (refine Br.mk (fun h => ?_) (fun h => ?_) <;> try simp (dsimp := false) (disch := omega) only [wrap64]) | refine Ob.mk (by first | omega | (intro _ _; rfl) | trivial | (intros; trivial) | assumption | (intro i hi; have h0 : i = 0 := (by omega); subst h0; first | rfl | trivial) | (intro i hi; have h0 : i = 0 ∨ i = 1 := (by omega); rcases h0 with rfl | rfl <;> rfl) | (intro i hi; have h0 : i = 0 ∨ i = 1 ∨ i = 2 := (by omega); rcases h0 with rfl | rfl | rfl <;> rfl)) ?_ | ((first | ((first | refine atF (f := 27) ?_ | refine atQ (f := 27) ?_); (first | (refine cV (hac := specIsGeneratorSet_ok n gs) (hK := ?_)) | (refine cQV (hac := specIsGeneratorSet_ok n gs) (hK := ?_))))); simp (maxSteps := 1000000) (dsimp := false) (implicitDefEqProofs := false) (disch := omega) only [wrap64, go_sem, hd]) | apply_assumption -exfalso -symm)
    all_goals (first | (show endQ _ _ _ _ _ _ _; (repeat (rename (∀ (A : Fr) (H : Hp), AWP _ _ _ _ A H → _) => hK; clear hK)); (repeat (rename (Fr → Hp → Prop) => K; clear K))) | (show Exists _; (repeat (rename (∀ (A : Fr) (H : Hp), AWP _ _ _ _ A H → _) => hK; clear hK)); (repeat (rename (Fr → Hp → Prop) => K; clear K))) | skip)
    rw [show orbP n gs = [] from if_neg hok]
    exact end_retV rfl rfl
theorem drawIsPrimitive_ok (xs : List Int) (hx : ∀ j, 0 ≤ xs.getD j 0 ∧ xs.getD j 0 ≤ 255) (hl : xs.length ≤ 4096) : AC Try.prog 39 [bts xs] Hp.emp (fun _ => false) (postX fun r => ∃ q : Int × List (List Int), grQ q.1 q.2 ∧ r = .tup 2 (vecF [.v (.int .i64 (q.1)), intss q.2])) := by
  refine ac_of_awp (N := ⟨_, fun _ => false, fun _ _ => rfl⟩) Try.func39 rfl (by kernel_rfl) Try.ntmps39 (by simp) ?_
  simp only [argsFr, List.zipIdx_cons, List.zipIdx_nil, go_sem]
  repeat' (first | ((first | refine atF (f := 58) ?_ | refine atQ (f := 58) ?_); (refine callRoll (newSource_ok xs hx hl) rfl (fun d0 => ?_)) <;> simp (maxSteps := 1000000) (dsimp := false) (implicitDefEqProofs := false) (disch := omega) only [wrap64, go_sem]) | ((first | refine atF (f := 82) ?_ | refine atQ (f := 82) ?_); (refine callD (by rfl) (drawGroup_ok _) (by rintro _ ⟨v, _, rfl⟩ p; simp only [scrub_tup, scF_vecF, List.map_cons, List.map_nil]; rfl) (fun r d1 hq => ?_); obtain ⟨⟨n, gs⟩, hg, rfl⟩ := hq) <;> simp (maxSteps := 1000000) (dsimp := false) (implicitDefEqProofs := false) (disch := omega) only [wrap64, go_sem]) | refine awp_seqK fun K hK => ?_ | (refine awp_regionK 29 rfl ?_; simp only [List.map_cons, List.map_nil]; simp (maxSteps := 1000000) (dsimp := false) (implicitDefEqProofs := false) (disch := omega) only [wrap64, go_sem]) | (refine awp_regionQK 29 (by kernel_rfl) (by kernel_rfl) (by kernel_rfl) ?_; simp only [List.map_cons, List.map_nil]; simp (maxSteps := 1000000) (dsimp := false) (implicitDefEqProofs := false) (disch := omega) only [wrap64, go_sem]) | refine awp_block ?_ | (refine awp_skip ?_; simp only [go_sem]) | (refine awp_exit ?_; simp only [go_sem]) | (refine awp_ret ?_; try simp only [go_sem]) | (refine awp_condP rfl ?_; try simp only [go_sem]) | (refine BrP.mk (fun h => ?_) (fun h => ?_) <;> try simp (dsimp := false) (disch := omega) only [wrap64]) | (refine Br.mk (fun h => ?_) (fun h => ?_) <;> try simp (dsimp := false) (disch := omega) only [wrap64]) | refine Ob.mk (by first | omega | (intro _ _; rfl) | trivial | (intros; trivial) | assumption | (intro i hi; have h0 : i = 0 := (by omega); subst h0; first | rfl | trivial) | (intro i hi; have h0 : i = 0 ∨ i = 1 := (by omega); rcases h0 with rfl | rfl <;> rfl) | (intro i hi; have h0 : i = 0 ∨ i = 1 ∨ i = 2 := (by omega); rcases h0 with rfl | rfl | rfl <;> rfl)) ?_ | apply_assumption -exfalso -symm)
  all_goals (first | (show endQ _ _ _ _ _ _ _; (repeat (rename (∀ (A : Fr) (H : Hp), AWP _ _ _ _ A H → _) => hK; clear hK)); (repeat (rename (Fr → Hp → Prop) => K; clear K))) | (show Exists _; (repeat (rename (∀ (A : Fr) (H : Hp), AWP _ _ _ _ A H → _) => hK; clear hK)); (repeat (rename (Fr → Hp → Prop) => K; clear K))) | skip)
  exact end_X2 rfl (by decide) rfl rfl (.refl _) (.refl _) ⟨(n, gs), hg, rfl⟩
end Go.Proofs.Ytngpacdhpblpbaa
end
