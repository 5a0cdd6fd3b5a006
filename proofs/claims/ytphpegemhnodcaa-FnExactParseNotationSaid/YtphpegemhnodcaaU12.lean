import Derived.Test.YtphpegemhnodcaaU4
import Derived.Test.YtphpegemhnodcaaU3
/- Nodes of syntax trees: how they lie, and what both texts say of one. -/
section
namespace Go.Proofs.Ytphpegemhnodcaa
open Go.Av
set_option linter.unusedSimpArgs false
set_option linter.unusedVariables false
attribute [local irreducible] AWP CallG Ob Br BrP Go.Av.Sub endQ AOps OpV AC thenA blkA opsVC opVC withA withArgs opsQ opQ CallQ withA2 withArgs2
open Go.Nt (Nd nd0 kd ndOk sz szK)
def ndC (x : Nd) : List AV := [.v (.int .i64 (x.kind)), .v (.int .i64 (x.move)), .v (.int .i64 (x.count)), .v (.int .i64 (x.inv)), .v (.int .i64 (x.split)), .list false 1 (x.kids).length (cM iv 0 (x.kids))]
def ndF (xs : List Nd) (j : Nat) : AV := vecF (ndC (xs.getD (j / 6) nd0)) (j % 6)
abbrev nds (xs : List Nd) : AV := .list false 6 xs.length (ndF xs)
theorem ndF_at (xs : List Nd) (k i : Nat) (h : i < 6) : ndF xs (k * 6 + i) = vecF (ndC (xs.getD k nd0)) i := by
  unfold ndF
  rw [show (k * 6 + i) / 6 = k by omega, show (k * 6 + i) % 6 = i by omega]
/-- Six cells that hold a node. -/
structure NdF (f : Nat → AV) (x : Nd) : Prop where
  h0 : f 0 = .v (.int .i64 (x.kind))
  h1 : f 1 = .v (.int .i64 (x.move))
  h2 : f 2 = .v (.int .i64 (x.count))
  h3 : f 3 = .v (.int .i64 (x.inv))
  h4 : f 4 = .v (.int .i64 (x.split))
  h5 : f 5 = .list false 1 (x.kids).length (cM iv 0 (x.kids))
theorem NdF.of {f : Nat → AV} {x : Nd} (h : ∀ i, i < 6 → f i = vecF (ndC x) i) : NdF f x := ⟨h 0 (by decide), h 1 (by decide), h 2 (by decide), h 3 (by decide), h 4 (by decide), h 5 (by decide)⟩
theorem ndF_is (xs : List Nd) (k : Nat) : NdF (fun j => ndF xs (k * 6 + j)) (xs.getD k nd0) := .of fun i hi => ndF_at xs k i hi
theorem shF_app (k : Nat) (f : Nat → AV) (i : Nat) : shF k f i = f (k + i) := rfl
theorem scF_app (p : Nat → Bool) (f : Nat → AV) (i : Nat) : scF p f i = (f i).scrub p := rfl
end Go.Proofs.Ytphpegemhnodcaa
end
/- Rows of nodes: the laws' own functions; valid syntax trees, both texts. -/
section
namespace Go.Proofs.Ytphpegemhnodcaa
open Go.Av
set_option linter.unusedSimpArgs false
set_option linter.unusedVariables false
attribute [local irreducible] AWP CallG Ob Br BrP Go.Av.Sub endQ AOps OpV AC thenA blkA opsVC opVC withA withArgs opsQ opQ CallQ withA2 withArgs2
open Go.Nt (Nd nd0 kd ndOk sz szK isNt)
def kss (xs : List Nd) : List (List Int) := xs.map (·.kids)
theorem kss_get (xs : List Nd) (j : Nat) : (kss xs).getD j [] = kd xs j := by
  unfold kss kd
  rw [List.getD_eq_getElem?_getD, List.getElem?_map, List.getD_eq_getElem?_getD]
  cases xs[j]? <;> rfl
theorem kss_len (xs : List Nd) : (kss xs).length = xs.length := by simp [kss]
theorem all6 {p : Nat → Prop} (h0 : p 0) (h1 : p 1) (h2 : p 2) (h3 : p 3) (h4 : p 4) (h5 : p 5) : ∀ i, i < 6 → p i := fun i hi => by
  match i, hi with
  | 0, _ => exact h0
  | 1, _ => exact h1
  | 2, _ => exact h2
  | 3, _ => exact h3
  | 4, _ => exact h4
  | 5, _ => exact h5
theorem vecF_scrub {l : List AV} {p : Nat → Bool} (h : ∀ a ∈ l, a.scrub p = a) (i : Nat) : (vecF l i).scrub p = vecF l i := by
  unfold vecF
  rw [List.getD_eq_getElem?_getD]
  cases e : l[i]? with
  | none => rfl
  | some a => exact h a (List.mem_of_getElem? e)
theorem ndC_plain (x : Nd) : ∀ a ∈ ndC x, a.plain ∧ a.one = true ∧ ∀ p, a.scrub p = a := by
  intro a ha
  unfold ndC at ha
  simp only [List.mem_cons, List.not_mem_nil, or_false] at ha
  rcases ha with rfl | rfl | rfl | rfl | rfl | rfl <;> exact ⟨trivial, rfl, fun _ => rfl⟩
theorem vecF_mem {l : List AV} {i : Nat} (h : i < l.length) : vecF l i ∈ l := by
  unfold vecF
  rw [List.getD_eq_getElem?_getD, List.getElem?_eq_getElem h]; exact List.getElem_mem h
theorem ndF_plain (xs : List Nd) (j : Nat) : (ndF xs j).plain ∧ ∀ p, (ndF xs j).scrub p = ndF xs j := by
  unfold ndF
  have h := vecF_mem (l := ndC (xs.getD (j / 6) nd0)) (i := j % 6) (by show j % 6 < 6; omega)
  have := ndC_plain _ _ h
  exact ⟨this.1, this.2.2⟩
theorem eqNode_ok (f g : Nat → AV) (x y : Nd) (hf : NdF f x) (hg : NdF g y) (hx : x.kids.length ≤ 1048576) : AC Try.prog 92 [.agg 6 f, .agg 6 g] Hp.emp (fun _ => false) (retV (.v (.bool (decide (x = y))))) := by
  have h0 := hf.h0
  have h1 := hf.h1
  have h2 := hf.h2
  have h3 := hf.h3
  have h4 := hf.h4
  have h5 := hf.h5
  have k0 := hg.h0
  have k1 := hg.h1
  have k2 := hg.h2
  have k3 := hg.h3
  have k4 := hg.h4
  have k5 := hg.h5
  clear hf hg
  refine ac_of_awp (N := ⟨_, fun _ => false, fun _ _ => rfl⟩) Try.func92 rfl (by kernel_rfl) Try.ntmps92 (by simp) ?_
  simp only [argsFr, List.zipIdx_cons, List.zipIdx_nil, go_sem]
  repeat' (first | refine awp_seqK fun K hK => ?_ | (refine awp_regionK 34913927711 rfl ?_; simp only [List.map_cons, List.map_nil]; simp (maxSteps := 1000000) (dsimp := false) (implicitDefEqProofs := false) (disch := omega) only [wrap64, go_sem, scF_app, h0, h1, h2, h3, h4, h5, k0, k1, k2, k3, k4, k5]) | (refine awp_regionQK 34913927711 (by kernel_rfl) (by kernel_rfl) (by kernel_rfl) ?_; simp only [List.map_cons, List.map_nil]; simp (maxSteps := 1000000) (dsimp := false) (implicitDefEqProofs := false) (disch := omega) only [wrap64, go_sem, scF_app, h0, h1, h2, h3, h4, h5, k0, k1, k2, k3, k4, k5]) | refine awp_block ?_ | (refine awp_skip ?_; simp only [go_sem, scF_app, h0, h1, h2, h3, h4, h5, k0, k1, k2, k3, k4, k5]) | (refine awp_exit ?_; simp only [go_sem, scF_app, h0, h1, h2, h3, h4, h5, k0, k1, k2, k3, k4, k5]) | (refine awp_ret ?_; try simp only [go_sem, scF_app, h0, h1, h2, h3, h4, h5, k0, k1, k2, k3, k4, k5]) | (refine awp_condP rfl ?_; try simp only [go_sem, scF_app, h0, h1, h2, h3, h4, h5, k0, k1, k2, k3, k4, k5]) | (refine BrP.mk (fun h => ?_) (fun h => ?_) <;> try simp (dsimp := false) (disch := omega) only [wrap64]) | (refine Br.mk (fun h => ?_) (fun h => ?_) <;> try simp (dsimp := false) (disch := omega) only [wrap64]) | refine Ob.mk (by first | omega | (intro _ _; rfl) | trivial | (intros; trivial) | assumption | (intro i hi; have h0 : i = 0 := (by omega); subst h0; first | rfl | trivial) | (intro i hi; have h0 : i = 0 ∨ i = 1 := (by omega); rcases h0 with rfl | rfl <;> rfl) | (intro i hi; have h0 : i = 0 ∨ i = 1 ∨ i = 2 := (by omega); rcases h0 with rfl | rfl | rfl <;> rfl)) ?_ | ((first | ((first | refine atF (f := 17) ?_ | refine atQ (f := 17) ?_); (first | (refine cV (hac := eqInt64S_ok x.kids y.kids hx) (hK := ?_)) | (refine cQV (hac := eqInt64S_ok x.kids y.kids hx) (hK := ?_))))); simp (maxSteps := 1000000) (dsimp := false) (implicitDefEqProofs := false) (disch := omega) only [wrap64, go_sem, scF_app, h0, h1, h2, h3, h4, h5, k0, k1, k2, k3, k4, k5]) | apply_assumption -exfalso -symm)
  all_goals (first | (show endQ _ _ _ _ _ _ _; (repeat (rename (∀ (A : Fr) (H : Hp), AWP _ _ _ _ A H → _) => hK; clear hK)); (repeat (rename (Fr → Hp → Prop) => K; clear K))) | (show Exists _; (repeat (rename (∀ (A : Fr) (H : Hp), AWP _ _ _ _ A H → _) => hK; clear hK)); (repeat (rename (Fr → Hp → Prop) => K; clear K))) | skip)
  all_goals
    refine end_retB rfl rfl ?_
    obtain ⟨a0, a1, a2, a3, a4, a5⟩ := x
    obtain ⟨b0, b1, b2, b3, b4, b5⟩ := y
    simp_all
theorem eq_of_getDN {xs ys : List Nd} (hl : xs.length = ys.length) (h : ∀ j, j < xs.length → xs.getD j nd0 = ys.getD j nd0) : xs = ys := by
  refine List.ext_getElem hl fun i h1 h2 => ?_
  have := h i h1
  simpa [h1, h2] using this
theorem eqNodes_ok (xs ys : List Nd) (hx : xs.length ≤ 1048576) (hb : ∀ j, (kd xs j).length ≤ 1048576) : AC Try.prog 18 [nds xs, nds ys] Hp.emp (fun _ => false) (retV (.v (.bool (decide (xs = ys))))) := by
  refine ac_of_awp (N := ⟨_, fun _ => false, fun _ _ => rfl⟩) Try.func18 rfl (by kernel_rfl) Try.ntmps18 (by simp) ?_
  simp only [argsFr, List.zipIdx_cons, List.zipIdx_nil, go_sem]
  repeat' (first | refine awp_seqK fun K hK => ?_ | (refine awp_regionK 67126323 rfl ?_; simp only [List.map_cons, List.map_nil]; simp (maxSteps := 1000000) (dsimp := false) (implicitDefEqProofs := false) (disch := omega) only [wrap64, go_sem]) | (refine awp_regionQK 67126323 (by kernel_rfl) (by kernel_rfl) (by kernel_rfl) ?_; simp only [List.map_cons, List.map_nil]; simp (maxSteps := 1000000) (dsimp := false) (implicitDefEqProofs := false) (disch := omega) only [wrap64, go_sem]) | refine awp_block ?_ | (refine awp_skip ?_; simp only [go_sem]) | (refine awp_exit ?_; simp only [go_sem]) | (refine awp_ret ?_; try simp only [go_sem]) | (refine awp_condP rfl ?_; try simp only [go_sem]) | (refine BrP.mk (fun h => ?_) (fun h => ?_) <;> try simp (dsimp := false) (disch := omega) only [wrap64]) | (refine Br.mk (fun h => ?_) (fun h => ?_) <;> try simp (dsimp := false) (disch := omega) only [wrap64]) | refine Ob.mk (by first | omega | (intro _ _; rfl) | trivial | (intros; trivial) | assumption | (intro i hi; have h0 : i = 0 := (by omega); subst h0; first | rfl | trivial) | (intro i hi; have h0 : i = 0 ∨ i = 1 := (by omega); rcases h0 with rfl | rfl <;> rfl) | (intro i hi; have h0 : i = 0 ∨ i = 1 ∨ i = 2 := (by omega); rcases h0 with rfl | rfl | rfl <;> rfl)) ?_ | apply_assumption -exfalso -symm)
  all_goals (first | (show endQ _ _ _ _ _ _ _; (repeat (rename (∀ (A : Fr) (H : Hp), AWP _ _ _ _ A H → _) => hK; clear hK)); (repeat (rename (Fr → Hp → Prop) => K; clear K))) | (show Exists _; (repeat (rename (∀ (A : Fr) (H : Hp), AWP _ _ _ _ A H → _) => hK; clear hK)); (repeat (rename (Fr → Hp → Prop) => K; clear K))) | skip)
  · have hl : xs.length = ys.length := by omega
    refine awp_loop (ι := Nat) (fun k => [(5, .v (.int .i64 (k))), (0, nds xs), (1, nds ys)]) (fun k => Hp.emp) (fun k => k ≤ xs.length ∧ ∀ j, j < k → xs.getD j nd0 = ys.getD j nd0) (fun k => xs.length - k) 0 ?_ (Sub.toL (by simp only [go_sem] <;> first | trivial | (simp only [Option.some.injEq, AV.v.injEq, AV.own.injEq, AV.list.injEq, Value.int.injEq, Value.bool.injEq, true_and, and_true]; first | omega | (simp; done)) | (simp; done) | (simp; omega)) (by (repeat' (first | exact Hp.le_emp _ | exact Hp.le_refl _ | refine Hp.le_upd ?_ ?_)); all_goals (first | rfl | (simp only [go_sem]; first | rfl | (refine cellsE ?_ ?_ <;> (simp)) | (simp))))) ?_
    · exact ⟨Nat.zero_le _, fun j h => absurd h (Nat.not_lt_zero _)⟩
    intro k hk
    repeat' (first | refine awp_seqK fun K hK => ?_ | (refine awp_regionK 67126323 rfl ?_; simp only [List.map_cons, List.map_nil]; simp (maxSteps := 1000000) (dsimp := false) (implicitDefEqProofs := false) (disch := omega) only [wrap64, go_sem]) | (refine awp_regionQK 67126323 (by kernel_rfl) (by kernel_rfl) (by kernel_rfl) ?_; simp only [List.map_cons, List.map_nil]; simp (maxSteps := 1000000) (dsimp := false) (implicitDefEqProofs := false) (disch := omega) only [wrap64, go_sem]) | refine awp_block ?_ | (refine awp_skip ?_; simp only [go_sem]) | (refine awp_exit ?_; simp only [go_sem]) | (refine awp_ret ?_; try simp only [go_sem]) | (refine awp_condP rfl ?_; try simp only [go_sem]) | (refine BrP.mk (fun h => ?_) (fun h => ?_) <;> try simp (dsimp := false) (disch := omega) only [wrap64]) | (refine Br.mk (fun h => ?_) (fun h => ?_) <;> try simp (dsimp := false) (disch := omega) only [wrap64]) | refine Ob.mk (by first | omega | (intro _ _; rfl) | trivial | (intros; trivial) | assumption | (intro i hi; have h0 : i = 0 := (by omega); subst h0; first | rfl | trivial) | (intro i hi; have h0 : i = 0 ∨ i = 1 := (by omega); rcases h0 with rfl | rfl <;> rfl) | (intro i hi; have h0 : i = 0 ∨ i = 1 ∨ i = 2 := (by omega); rcases h0 with rfl | rfl | rfl <;> rfl)) ?_ | ((first | ((first | refine atF (f := 92) ?_ | refine atQ (f := 92) ?_); (first | (refine cV (hac := eqNode_ok (fun j => ndF xs (k * 6 + j)) (fun j => ndF ys (k * 6 + j)) (xs.getD k nd0) (ys.getD k nd0) (ndF_is xs k) (ndF_is ys k) (hb _)) (hK := ?_)) | (refine cQV (hac := eqNode_ok (fun j => ndF xs (k * 6 + j)) (fun j => ndF ys (k * 6 + j)) (xs.getD k nd0) (ys.getD k nd0) (ndF_is xs k) (ndF_is ys k) (hb _)) (hK := ?_))))); simp (maxSteps := 1000000) (dsimp := false) (implicitDefEqProofs := false) (disch := omega) only [wrap64, go_sem]) | apply_assumption -exfalso -symm)
    all_goals (first | (show endQ _ _ _ _ _ _ _; (repeat (rename (∀ (A : Fr) (H : Hp), AWP _ _ _ _ A H → _) => hK; clear hK)); (repeat (rename (Fr → Hp → Prop) => K; clear K))) | (show Exists _; (repeat (rename (∀ (A : Fr) (H : Hp), AWP _ _ _ _ A H → _) => hK; clear hK)); (repeat (rename (Fr → Hp → Prop) => K; clear K))) | skip)
    · refine ⟨k + 1, ?_, ?_, Sub.toL (by simp only [go_sem] <;> first | trivial | (simp only [Option.some.injEq, AV.v.injEq, AV.own.injEq, AV.list.injEq, Value.int.injEq, Value.bool.injEq, true_and, and_true]; first | omega | (simp; done)) | (simp; done) | (simp; omega)) (by (repeat' (first | exact Hp.le_emp _ | exact Hp.le_refl _ | refine Hp.le_upd ?_ ?_)); all_goals (first | rfl | (simp only [go_sem]; first | rfl | (refine cellsE ?_ ?_ <;> (simp)) | (simp))))⟩
      · refine ⟨by omega, fun j hj => ?_⟩
        by_cases h' : j = k
        · subst h'; assumption
        · exact hk.2 j (by omega)
      · omega
    · refine end_retB rfl rfl ?_
      simp only [Bool.false_eq_true, false_iff]
      rintro rfl
      exact absurd rfl ‹¬_›
    · refine end_retB rfl rfl ?_
      simp only [true_iff]
      exact eq_of_getDN hl fun j hj => hk.2 j (by omega)
  · exact end_retB rfl rfl (by simp; rintro rfl; simp at h)
end Go.Proofs.Ytphpegemhnodcaa
end
/- Valid syntax trees: both texts. -/
section
namespace Go.Proofs.Ytphpegemhnodcaa
open Go.Av
set_option linter.unusedSimpArgs false
set_option linter.unusedVariables false
attribute [local irreducible] AWP CallG Ob Br BrP Go.Av.Sub endQ AOps OpV AC thenA blkA opsVC opVC withA withArgs opsQ opQ CallQ withA2 withArgs2
open Go.Nt (Nd nd0 kd ndOk sz szK szF isNt runF stp)
end Go.Proofs.Ytphpegemhnodcaa
end
/- Rows of nodes that come in: their sizes. -/
section
namespace Go.Proofs.Ytphpegemhnodcaa
open Go.Av
set_option linter.unusedSimpArgs false
set_option linter.unusedVariables false
attribute [local irreducible] AWP CallG Ob Br BrP Go.Av.Sub endQ AOps OpV AC thenA blkA opsVC opVC withA withArgs opsQ opQ CallQ withA2 withArgs2
open Go.Nt (Nd nd0 kd)
end Go.Proofs.Ytphpegemhnodcaa
end
/- Nodes of our own: a row of nodes whose children lie in rows of our own; their marks. -/
section
namespace Go.Proofs.Ytphpegemhnodcaa
open Go.Av
set_option linter.unusedSimpArgs false
set_option linter.unusedVariables false
attribute [local irreducible] AWP CallG Ob Br BrP Go.Av.Sub endQ AOps OpV AC thenA blkA opsVC opVC withA withArgs opsQ opQ CallQ withA2 withArgs2
open Go.Nt (Nd nd0 kd)
def nO (e : AV) (x : Nd) : Nat → AV := vecF [.v (.int .i64 (x.kind)), .v (.int .i64 (x.move)), .v (.int .i64 (x.count)), .v (.int .i64 (x.inv)), .v (.int .i64 (x.split)), e]
section
variable {P : Program} {N : Cx} {A A' : Fr} {H H' : Hp}
/-- The cells of a row of nodes, of which k are laid. -/
def nmF (xs : List Nd) (k j : Nat) : AV := if j < k * 6 then (if j % 6 = 5 then .own (sub 1000000 (j / 6)) 0 1 (kd xs (j / 6)).length else ndF xs j) else zF [.int .i64 0, .int .i64 0, .int .i64 0, .int .i64 0, .int .i64 0, .slice none 0 0] j
/-- A row of n nodes, k of them laid, each with a row of children. -/
def NR (xs : List Nd) (k n : Nat) : Hp := fun h => if h = 1000000 then some (.cells (n * 6) (nmF xs k)) else if h / FB = 1000001 ∧ h % FB < k then some (.cells (kd xs (h % FB)).length (cM iv 0 (kd xs (h % FB)))) else none
theorem NR_self (xs : List Nd) (k n : Nat) : NR xs k n 1000000 = some (.cells (n * 6) (nmF xs k)) := if_pos rfl
theorem NR_sub {xs : List Nd} {k n i : Nat} (hi : i < k) (hk : k ≤ 1048576) : NR xs k n (sub 1000000 i) = some (.cells (kd xs i).length (cM iv 0 (kd xs i))) := by
  have h1 : sub 1000000 i ≠ 1000000 := by have := sub_ge 1000000 i; rw [FB_eq] at this; omega
  have h2 : i < FB := by rw [FB_eq]; omega
  simp [NR, h1, sub_div h2, sub_mod h2, hi]
theorem NR_low {xs : List Nd} {k n h : Nat} (hh : h < 1000000) : NR xs k n h = none := by
  have : h / FB = 0 := top_div (by rw [FB_eq]; omega)
  simp [NR, this]; omega
theorem NR_high {xs : List Nd} {k n h : Nat} (hn : NR xs k n h ≠ none) : 1000000 ≤ h := by
  by_cases hh : h < 1000000
  · exact absurd (NR_low hh) hn
  · omega
theorem NR_cases {xs : List Nd} {k n h : Nat} {B : Blk} (hB : NR xs k n h = some B) : (h = 1000000 ∧ B = .cells (n * 6) (nmF xs k)) ∨ ∃ i, i < k ∧ h = sub 1000000 i ∧ B = .cells (kd xs i).length (cM iv 0 (kd xs i)) := by
  unfold NR at hB
  split at hB
  · rename_i e; simp only [Option.some.injEq] at hB; exact .inl ⟨e, hB.symm⟩
  · split at hB
    · rename_i e; simp only [Option.some.injEq] at hB; exact .inr ⟨_, e.2, sub_of e.1, hB.symm⟩
    · simp at hB
theorem nmF_scr {xs : List Nd} {k : Nat} {p : Nat → Bool} (hp : ∀ i, i < k → p (sub 1000000 i) = false) (j : Nat) : (nmF xs k j).scrub p = nmF xs k j := by
  unfold nmF
  split
  · split
    · simp only [AV.scrub]
      rw [hp (j / 6) (by omega)]; rfl
    · exact (ndF_plain xs j).2 p
  · rfl
theorem NR_scrub {xs : List Nd} {k n : Nat} {p : Nat → Bool} (hp : ∀ i, i < k → p (sub 1000000 i) = false) : (NR xs k n).scrub p = NR xs k n := by
  funext h
  unfold Hp.scrub
  cases e : NR xs k n h with
  | none => rfl
  | some B =>
    rcases NR_cases e with ⟨rfl, rfl⟩ | ⟨i, hi, rfl, rfl⟩
    · simp only [Option.map_some, Option.some.injEq, Blk.scrub]
      congr 1
      funext j
      exact nmF_scr hp j
    · rfl
theorem NR_scr {xs : List Nd} {k n e : Nat} (he : e < 1000000) : (NR xs k n).scrub (· == e) = NR xs k n := NR_scrub fun i _ => by
  have := sub_ge 1000000 i; rw [FB_eq] at this
  rw [beq_eq_false_iff_ne]; omega
theorem NR_add_scr {xs : List Nd} {k n e : Nat} (he : e < 1000000) : ((NR xs k n).add H).scrub (· == e) = (NR xs k n).add (H.scrub (· == e)) := by
  have h1 := NR_scr (xs := xs) (k := k) (n := n) he
  funext h
  have h2 := congrFun h1 h
  unfold Hp.scrub at h2
  unfold Hp.scrub Hp.add
  cases e : NR xs k n h with
  | none => rfl
  | some B => rw [e] at h2; exact h2
theorem NR_add_self (xs : List Nd) (k n : Nat) : ((NR xs k n).add H) 1000000 = some (.cells (n * 6) (nmF xs k)) := Hp.add_some (NR_self xs k n)
end
/-- H holds the row of nodes whole. -/
structure HasNR (H : Hp) (xs : List Nd) : Prop where
  top : H 1000000 = some (.cells (xs.length * 6) (nmF xs xs.length))
  row : ∀ i, i < xs.length → H (sub 1000000 i) = some (.cells (kd xs i).length (cM iv 0 (kd xs i)))
section
variable {P : Program} {N : Cx} {A A' : Fr} {H H' : Hp}
theorem HasNR.base {xs : List Nd} (hx : xs.length ≤ 1048576) : HasNR ((NR xs xs.length xs.length).add H) xs := ⟨NR_add_self _ _ _, fun _ hi => Hp.add_some (NR_sub hi hx)⟩
theorem HasNR.upd {xs : List Nd} {e : Nat} {B : Blk} (he : e < 1000000) (h : HasNR H xs) : HasNR (H.upd e B) xs := by
  obtain ⟨h1, h2⟩ := h
  refine ⟨?_, fun i hi => ?_⟩
  · unfold Hp.upd; rw [if_neg (by omega)]; exact h1
  · have := sub_ge 1000000 i; rw [FB_eq] at this
    unfold Hp.upd; rw [if_neg (by omega)]; exact h2 i hi
theorem fits_NR {xs : List Nd} (h : HasNR H xs) : Fits H (fun _ => True) (.own 1000000 0 6 xs.length) (nds xs) := by
  refine .own h.top trivial (by omega) (fun i _ => (ndF_plain xs i).1) (fun j hj => ?_)
  rw [Nat.zero_add]
  unfold nmF
  rw [if_pos hj]
  split
  · rename_i e
    have e2 : ndF xs j = .list false 1 (kd xs (j / 6)).length (cM iv 0 (kd xs (j / 6))) := by unfold ndF; rw [e]; rfl
    rw [e2]
    exact fits_I (h.row _ (by omega)) trivial rfl rfl
  · exact .refl _
end
theorem setF_ne {f : Nat → AV} {i j : Nat} {x : AV} (h : j ≠ i) : setF f i x j = f j := if_neg h
def totN (xs : List Nd) (i : Nat) : Nat := 5 * i + tot ((kss xs).take i)
theorem totN_succ (xs : List Nd) (i : Nat) (h : i < xs.length) : totN xs (i + 1) = totN xs i + 5 + (kd xs i).length := by
  unfold totN
  rw [tot_snoc _ _ (by rw [kss_len]; exact h), kss_get]; omega
theorem totN_le (xs : List Nd) (i : Nat) (h : i ≤ xs.length) : totN xs i ≤ 5 * xs.length + tot (kss xs) := by
  have := tot_le (kss xs) i
  unfold totN; omega
end Go.Proofs.Ytphpegemhnodcaa
end
