import Derived.Test.YtdllbnchcjgcdaaE6
import Derived.Test.YtdllbnchcjgcdaaE3
/- The reference extends a chain. -/
section
namespace Go.Proofs.Ytdllbnchcjgcdaa
open Go.Av
set_option linter.unusedSimpArgs false
set_option linter.unusedVariables false
attribute [local irreducible] AWP CallG Ob Br BrP Go.Av.Sub endQ AOps OpV AC thenA blkA opsVC opVC withA withArgs opsQ opQ CallQ withA2 withArgs2
open Go.Pm (Pm comp invp idn img Ch fixB Spc Run Gen)

end Go.Proofs.Ytdllbnchcjgcdaa
end
/- A new chain, and the chain of generators: the reference's. -/
section
namespace Go.Proofs.Ytdllbnchcjgcdaa
open Go.Av
set_option linter.unusedSimpArgs false
set_option linter.unusedVariables false
attribute [local irreducible] AWP CallG Ob Br BrP Go.Av.Sub endQ AOps OpV AC thenA blkA opsVC opVC withA withArgs opsQ opQ CallQ withA2 withArgs2
open Go.Pm (Pm comp invp idn img Ch fixB)

section
variable {F : Nat → AV} {n j k : Nat} {C : Ch} {R : Hp}
end

end Go.Proofs.Ytdllbnchcjgcdaa
end
/- IsReachable: both texts ask whether the state lies in the group of the moves. -/
section
namespace Go.Proofs.Ytdllbnchcjgcdaa
open Go.Av
set_option linter.unusedSimpArgs false
set_option linter.unusedVariables false
attribute [local irreducible] AWP CallG Ob Br BrP Go.Av.Sub endQ AOps OpV AC thenA blkA opsVC opVC withA withArgs opsQ opQ CallQ withA2 withArgs2
open Go.Pm (Pm comp invp idn img Ch fixB)

theorem scrub_box {d : Nat} {a b : Value} {xs : List (List Int)} (q : Nat → Bool) : Hp.scrub q (Hp.emp.upd d (.cells 3 (vecF [.v a, .v b, .list false 1 xs.length (cM ints [] xs)]))) = Hp.emp.upd d (.cells 3 (vecF [.v a, .v b, .list false 1 xs.length (cM ints [] xs)])) := by
  funext x
  unfold Hp.scrub Hp.upd
  split
  · simp only [Option.map_some, Blk.scrub, Option.some.injEq, Blk.cells.injEq, true_and]
    funext i
    match i with
    | 0 => rfl
    | 1 => rfl
    | 2 => rfl
    | i + 3 => rfl
  · rfl
end Go.Proofs.Ytdllbnchcjgcdaa
end
/- StateCount: both texts multiply the sizes of the orbits. -/
section
namespace Go.Proofs.Ytdllbnchcjgcdaa
open Go.Av
set_option linter.unusedSimpArgs false
set_option linter.unusedVariables false
attribute [local irreducible] AWP CallG Ob Br BrP Go.Av.Sub endQ AOps OpV AC thenA blkA opsVC opVC withA withArgs opsQ opQ CallQ withA2 withArgs2
open Go.Pm (Pm comp invp idn img Ch fixB fact)

/-- The product of the first m orbit sizes. -/
def prO (n : Nat) (C : Ch) : Nat → Nat
  | 0 => 1
  | m + 1 => prO n C m * C.cnt n m
theorem prO_ord (n : Nat) (C : Ch) : ∀ k m, m + k = n → prO n C m * C.ord n k m = prO n C n
  | 0, m, h => by obtain rfl : m = n := by omega
                  simp [Ch.ord]
  | k + 1, m, h => by
    have := prO_ord n C k (m + 1) (by omega)
    rw [← this]
    simp [Ch.ord, prO, Nat.mul_assoc]
theorem cnt_pos {n : Nat} {C : Ch} (w : C.WF n) {i : Nat} (hi : i < n) : 1 ≤ C.cnt n i := by
  unfold Ch.cnt
  refine List.countP_pos_iff.2 ⟨i, by simpa using hi, ?_⟩
  rw [w.t0 i hi]; rfl
theorem ord_pos {n : Nat} {C : Ch} (w : C.WF n) : ∀ k m, m + k = n → 1 ≤ C.ord n k m
  | 0, _, _ => by simp [Ch.ord]
  | k + 1, m, h => Nat.mul_pos (cnt_pos w (by omega)) (ord_pos w k (m + 1) (by omega))
theorem prO_n (n : Nat) (C : Ch) : prO n C n = C.ord n n 0 := by
  have := prO_ord n C n 0 (by omega)
  simpa [prO] using this.symm
theorem prO_le {n : Nat} {C : Ch} (w : C.WF n) (hn : n ≤ 20) {m : Nat} (hm : m ≤ n) : prO n C m ≤ 2432902008176640000 := by
  have h1 := prO_ord n C (n - m) m (by omega)
  have h2 := ord_pos w (n - m) m (by omega)
  have h3 := Ch.ord_le w n 0 (by omega)
  have h4 := Go.Pm.fact_mono hn
  rw [Go.Pm.fact_20] at h4
  rw [prO_n] at h1
  have h5 : prO n C m * 1 ≤ prO n C m * C.ord n (n - m) m := Nat.mul_le_mul_left _ h2
  omega
theorem orb_cnt (n : Nat) (C : Ch) (i : Nat) : (orb (C.T i) n).length = C.cnt n i := by
  unfold orb Ch.cnt
  rw [List.length_map, List.countP_eq_length_filter]
theorem order_ok (n : Nat) (C : Ch) (hn : n ≤ 20) (hw : C.WF n) : AC Try.prog 87 [chI n C, .v (.int .i64 (0))] Hp.emp (fun _ => false) (retV (.v (.int .i64 (prO n C n)))) := by
  unfold chI
  refine ac_of_awp (N := ⟨_, fun _ => false, fun _ _ => rfl⟩) Try.func87 rfl (by kernel_rfl) Try.ntmps87 (by simp) ?_
  simp only [argsFr, List.zipIdx_cons, List.zipIdx_nil, go_sem]
  repeat' (first | refine awp_seqK fun K hK => ?_ | (refine awp_regionK 8307 rfl ?_; simp only [List.map_cons, List.map_nil]; simp (maxSteps := 1000000) (dsimp := false) (implicitDefEqProofs := false) (disch := omega) only [wrap64, go_sem]) | (refine awp_regionQK 8307 (by kernel_rfl) (by kernel_rfl) (by kernel_rfl) ?_; simp only [List.map_cons, List.map_nil]; simp (maxSteps := 1000000) (dsimp := false) (implicitDefEqProofs := false) (disch := omega) only [wrap64, go_sem]) | refine awp_block ?_ | (refine awp_skip ?_; simp only [go_sem]) | (refine awp_exit ?_; simp only [go_sem]) | (refine awp_ret ?_; try simp only [go_sem]) | (refine awp_condP rfl ?_; try simp only [go_sem]) | (refine BrP.mk (fun h => ?_) (fun h => ?_) <;> try simp (dsimp := false) (disch := omega) only [wrap64]) | (refine Br.mk (fun h => ?_) (fun h => ?_) <;> try simp (dsimp := false) (disch := omega) only [wrap64]) | refine Ob.mk (by first | omega | (intro _ _; rfl) | trivial | (intros; trivial) | assumption | (intro i hi; have h0 : i = 0 := (by omega); subst h0; first | rfl | trivial) | (intro i hi; have h0 : i = 0 ∨ i = 1 := (by omega); rcases h0 with rfl | rfl <;> rfl) | (intro i hi; have h0 : i = 0 ∨ i = 1 ∨ i = 2 := (by omega); rcases h0 with rfl | rfl | rfl <;> rfl)) ?_ | apply_assumption -exfalso -symm)
  all_goals (first | (show endQ _ _ _ _ _ _ _; (repeat (rename (∀ (A : Fr) (H : Hp), AWP _ _ _ _ A H → _) => hK; clear hK)); (repeat (rename (Fr → Hp → Prop) => K; clear K))) | (show Exists _; (repeat (rename (∀ (A : Fr) (H : Hp), AWP _ _ _ _ A H → _) => hK; clear hK)); (repeat (rename (Fr → Hp → Prop) => K; clear K))) | skip)
  refine awp_loop (ι := Nat) (fun k => [(6, .v (.int .i64 (k))), (5, .v (.int .i64 (prO n C k))), (0, chI n C)]) (fun k => Hp.emp) (fun k => k ≤ n) (fun k => n - k) 0 (Nat.zero_le _) (Sub.toL (by simp only [go_sem] <;> first | trivial | (simp only [Option.some.injEq, AV.v.injEq, AV.own.injEq, AV.list.injEq, Value.int.injEq, Value.bool.injEq, true_and, and_true]; first | omega | (simp [chI, prO]; done)) | (simp [chI, prO]; done) | (simp [chI, prO]; omega)) (Hp.le_emp _)) ?_
  intro k hk
  unfold chI
  have hT : ∀ y t, y < n → C.T k y = some t → k < n → 0 < t.length := fun y t _ ht hkn => by have := (hw.t1 k y t hkn ht).1.1; omega
  have hc := orb_cnt n C k
  have hp1 := prO_le hw hn hk
  have hp2 := fun h : k + 1 ≤ n => prO_le hw hn h
  have hp3 : prO n C (k + 1) = prO n C k * C.cnt n k := rfl
  repeat' (first | refine awp_seqK fun K hK => ?_ | (refine awp_regionK 8307 rfl ?_; simp only [List.map_cons, List.map_nil]; simp (maxSteps := 1000000) (dsimp := false) (implicitDefEqProofs := false) (disch := omega) only [wrap64, go_sem, rowF_app]) | (refine awp_regionQK 8307 (by kernel_rfl) (by kernel_rfl) (by kernel_rfl) ?_; simp only [List.map_cons, List.map_nil]; simp (maxSteps := 1000000) (dsimp := false) (implicitDefEqProofs := false) (disch := omega) only [wrap64, go_sem, rowF_app]) | refine awp_block ?_ | (refine awp_skip ?_; simp only [go_sem, rowF_app]) | (refine awp_exit ?_; simp only [go_sem, rowF_app]) | (refine awp_ret ?_; try simp only [go_sem, rowF_app]) | (refine awp_condP rfl ?_; try simp only [go_sem, rowF_app]) | (refine BrP.mk (fun h => ?_) (fun h => ?_) <;> try simp (dsimp := false) (disch := omega) only [wrap64]) | (refine Br.mk (fun h => ?_) (fun h => ?_) <;> try simp (dsimp := false) (disch := omega) only [wrap64]) | refine Ob.mk (by first | omega | (intro _ _; rfl) | trivial | (intros; trivial) | assumption | (intro i hi; have h0 : i = 0 := (by omega); subst h0; first | rfl | trivial) | (intro i hi; have h0 : i = 0 ∨ i = 1 := (by omega); rcases h0 with rfl | rfl <;> rfl) | (intro i hi; have h0 : i = 0 ∨ i = 1 ∨ i = 2 := (by omega); rcases h0 with rfl | rfl | rfl <;> rfl)) ?_ | ((first | ((first | refine atF (f := 138) ?_ | refine atQ (f := 138) ?_); (first | (refine cFI (hac := orbitOf_ok n (C.T k) hn (fun y t h1 h2 => hT y t h1 h2 (by omega)) 31) (hK := ?_)) | (refine cQI (hac := orbitOf_ok n (C.T k) hn (fun y t h1 h2 => hT y t h1 h2 (by omega)) 31) (hK := ?_)))) | ((first | refine atF (f := 113) ?_ | refine atQ (f := 113) ?_); (first | (refine cV (hac := length_ok (orb (C.T k) n)) (hK := ?_)) | (refine cQV (hac := length_ok (orb (C.T k) n)) (hK := ?_))))); simp (maxSteps := 1000000) (dsimp := false) (implicitDefEqProofs := false) (disch := omega) only [wrap64, go_sem, rowF_app]) | apply_assumption -exfalso -symm)
  all_goals (first | (show endQ _ _ _ _ _ _ _; (repeat (rename (∀ (A : Fr) (H : Hp), AWP _ _ _ _ A H → _) => hK; clear hK)); (repeat (rename (Fr → Hp → Prop) => K; clear K))) | (show Exists _; (repeat (rename (∀ (A : Fr) (H : Hp), AWP _ _ _ _ A H → _) => hK; clear hK)); (repeat (rename (Fr → Hp → Prop) => K; clear K))) | skip)
  · have hb := hp2 (by omega)
    have hw64 : IntKind.i64.wrap (((prO n C k : Nat) : Int) * (((orb (C.T k) n).length : Nat) : Int)) = ((prO n C (k + 1) : Nat) : Int) := by
      rw [hc, ← Int.natCast_mul, ← hp3]; exact wrap64 (by omega)
    rw [hw64]
    exact ⟨k + 1, by omega, by omega, Sub.toL (by simp only [go_sem] <;> first | trivial | (simp only [Option.some.injEq, AV.v.injEq, AV.own.injEq, AV.list.injEq, Value.int.injEq, Value.bool.injEq, true_and, and_true]; first | omega | (simp; done)) | (simp; done) | (simp; omega)) (Hp.le_refl _)⟩
  · have e : k = n := by omega
    subst e
    exact end_retV rfl rfl
/-- How many states a puzzle has. -/
noncomputable def cntP (p : Pz) : Nat := if isPz p then Go.Pm.ordG p.n.toNat p.m else 0
theorem of_ord {n : Nat} {gs : List (List Int)} {C : Ch} (h : Of n gs C) : prO n C n = Go.Pm.ordG n gs := by
  rw [prO_n]; exact (Go.Pm.ordG_chain h.1 h.2.1 h.2.2).symm
theorem isPz.natn {p : Pz} (h : isPz p) : p.n = ((p.n.toNat : Nat) : Int) := by have := h.n; omega
theorem implStateCount_ok (p : Pz) (hs : p.s.size ≤ 140737488355328) : AC Try.prog 34 [pz p] Hp.emp (fun _ => false) (retV (.v (.int .i64 (((cntP p : Nat) : Int))))) := by
  have hnc : isPz p → AC Try.prog 86 [.v (.int .i64 (p.n)), intss p.m] Hp.emp (fun _ => false) (postN (kI p.n.toNat) p.n.toNat (Of p.n.toNat p.m)) := fun h => by
    have e := h.natn
    have h1 := h.n
    have := newChain_ok p.n.toNat p.m (by omega) h.gens h.1.2.1
    rw [← e] at this
    exact this
  have hn2 : isPz p → p.n.toNat ≤ 20 := fun h => by have := h.n; omega
  refine ac_of_awp (N := ⟨_, fun _ => false, fun _ _ => rfl⟩) Try.func34 rfl (by kernel_rfl) Try.ntmps34 (by simp) ?_
  simp only [argsFr, List.zipIdx_cons, List.zipIdx_nil, go_sem]
  repeat' (first | refine awp_seqK fun K hK => ?_ | (refine awp_regionK 39 rfl ?_; simp only [List.map_cons, List.map_nil]; simp (maxSteps := 1000000) (dsimp := false) (implicitDefEqProofs := false) (disch := omega) only [wrap64, go_sem]) | (refine awp_regionQK 39 (by kernel_rfl) (by kernel_rfl) (by kernel_rfl) ?_; simp only [List.map_cons, List.map_nil]; simp (maxSteps := 1000000) (dsimp := false) (implicitDefEqProofs := false) (disch := omega) only [wrap64, go_sem]) | refine awp_block ?_ | (refine awp_skip ?_; simp only [go_sem]) | (refine awp_exit ?_; simp only [go_sem]) | (refine awp_ret ?_; try simp only [go_sem]) | (refine awp_condP rfl ?_; try simp only [go_sem]) | (refine BrP.mk (fun h => ?_) (fun h => ?_) <;> try simp (dsimp := false) (disch := omega) only [wrap64]) | (refine Br.mk (fun h => ?_) (fun h => ?_) <;> try simp (dsimp := false) (disch := omega) only [wrap64]) | refine Ob.mk (by first | omega | (intro _ _; rfl) | trivial | (intros; trivial) | assumption | (intro i hi; have h0 : i = 0 := (by omega); subst h0; first | rfl | trivial) | (intro i hi; have h0 : i = 0 ∨ i = 1 := (by omega); rcases h0 with rfl | rfl <;> rfl) | (intro i hi; have h0 : i = 0 ∨ i = 1 ∨ i = 2 := (by omega); rcases h0 with rfl | rfl | rfl <;> rfl)) ?_ | ((first | ((first | refine atF (f := 85) ?_ | refine atQ (f := 85) ?_); (first | (refine cV (hac := implIsValidPuzzle_ok p hs) (hK := ?_)) | (refine cQV (hac := implIsValidPuzzle_ok p hs) (hK := ?_)))) | ((first | refine atF (f := 86) ?_ | refine atQ (f := 86) ?_); refine callNew (hnc (by assumption)) (.inl rfl) (hn2 (by assumption)) (scrub_box _) rfl (fun C hC => ?_)) | ((first | refine atF (f := 87) ?_ | refine atQ (f := 87) ?_); refine cV (hfit := .cons (fits_chI (le_add _ _) (hn2 (by assumption)) (fun _ => trivial)) (.cons (.refl _) .nil)) (hac := order_ok p.n.toNat C (hn2 (by assumption)) hC.1) (hK := ?_))); simp (maxSteps := 1000000) (dsimp := false) (implicitDefEqProofs := false) (disch := omega) only [wrap64, go_sem]) | apply_assumption -exfalso -symm)
  all_goals (first | (show endQ _ _ _ _ _ _ _; (repeat (rename (∀ (A : Fr) (H : Hp), AWP _ _ _ _ A H → _) => hK; clear hK)); (repeat (rename (Fr → Hp → Prop) => K; clear K))) | (show Exists _; (repeat (rename (∀ (A : Fr) (H : Hp), AWP _ _ _ _ A H → _) => hK; clear hK)); (repeat (rename (Fr → Hp → Prop) => K; clear K))) | skip)
  · exact end_retV' rfl rfl (by unfold cntP; rw [if_pos (by assumption), of_ord hC])
  · exact end_retV' rfl rfl (by unfold cntP; rw [if_neg (by assumption)]; rfl)
end Go.Proofs.Ytdllbnchcjgcdaa
end
