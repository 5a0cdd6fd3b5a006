import Derived.Test.YticbabpajligbaaDoorM17
import Derived.Test.YticbabpajligbaaDoorM2
import Derived.Test.YticbabpajligbaaDoorM16
import Derived.Test.YticbabpajligbaaDoorM13
import Derived.Lib.Strings
import Derived.Lib.Slices
import Derived.Lib.Walk
import Derived.Lib.Bytealg
section
namespace Go.Proofs.YticbabpajligbaaDoor
open Go.Av
set_option linter.unusedSimpArgs false
set_option linter.unusedVariables false
attribute [local irreducible] AWP CallG Ob Br BrP Go.Av.Sub endQ AOps OpV AC thenA blkA opsVC opVC withA withArgs opsQ opQ CallQ withA2 withArgs2
open Go.Pm (Pm comp invp idn img)

theorem isPerm_pm (p : List Int) : isPerm p ↔ (1 ≤ p.length ∧ p.length ≤ 20) ∧ Pm p.length p := by
  unfold isPerm
  refine and_congr_right fun h1 => ?_
  constructor
  · intro h
    refine ⟨rfl, fun j hj => by have := (h j hj).1; omega, fun i j hi hj e => ?_⟩
    have key : ∀ i j, i < j → j < p.length → p.getD i 0 ≠ p.getD j 0 := fun i j hij hj e => by
      refine (h j hj).2 (mem_getD.2 ⟨i, by simp; omega, ?_⟩)
      rw [← e]
      simp [List.getD_eq_getElem?_getD, List.getElem?_take, hij]
    rcases Nat.lt_trichotomy i j with hl | he | hl
    · exact absurd e (key i j hl hj)
    · exact he
    · exact absurd e.symm (key j i hl hi)
  · rintro ⟨_, h2, h3⟩ j hj
    refine ⟨by have := h2 j hj; omega, fun hm => ?_⟩
    obtain ⟨i, hi, e⟩ := mem_getD.1 hm
    simp only [List.length_take] at hi
    have e' : p.getD i 0 = p.getD j 0 := by
      rw [← e]
      simp [List.getD_eq_getElem?_getD, List.getElem?_take, show i < j by omega]
    have := h3 i j (by omega) hj e'
    omega

/-- The generators are permutations of n points. -/
def gensP (n : Nat) (g : List (List Int)) : Prop := g.length ≤ 1048576 ∧ n ≤ 20 ∧ ∀ j, j < g.length → Pm n (g.getD j [])
theorem gensP.of {n : Int} {g : List (List Int)} (h : isGens n g) : gensP n.toNat g := by
  refine ⟨by have := h.2.1; omega, by have := h.1; omega, fun j hj => ?_⟩
  obtain ⟨h1, h2⟩ := h.2.2 j hj
  have := ((isPerm_pm _).1 h2).2
  rwa [show (g.getD j []).length = n.toNat by omega] at this
def inL (g : List (List Int)) (l : Int) : Prop := l ≠ 0 ∧ -(g.length : Int) ≤ l ∧ l ≤ g.length
def wordP (g : List (List Int)) (w : List Int) : Prop := ∀ j, j < w.length → inL g (w.getD j 0)
theorem wordP.of {g : List (List Int)} {w : List Int} (h : isW g.length w) : wordP g w := fun j hj => by
  have := h.2 j hj
  unfold isL at this; unfold inL; omega
end Go.Proofs.YticbabpajligbaaDoor
end
/- The laws' dice: how they are made; words of dice; whether codes are big, rows alike. -/
section
namespace Go.Proofs.YticbabpajligbaaDoor
open Go.Av
set_option linter.unusedSimpArgs false
set_option linter.unusedVariables false
attribute [local irreducible] AWP CallG Ob Br BrP Go.Av.Sub endQ AOps OpV AC thenA blkA opsVC opVC withA withArgs opsQ opQ CallQ withA2 withArgs2
open Go.Pm (Pm comp invp idn img)
theorem big_ok (xs : List Int) : AC Tryd.prog 17 [bts xs] Hp.emp (fun _ => false) (retV (.v (.bool (decide (4096 < xs.length))))) := by
  refine ac_of_awp (N := ⟨_, fun _ => false, fun _ _ => rfl, true⟩) Tryd.func17 rfl (by kernel_rfl) Tryd.ntmps17 (by simp) ?_
  simp only [argsFr, List.zipIdx_cons, List.zipIdx_nil, go_sem]
  unfold bts
  repeat' (first | refine awp_seqK fun K hK => ?_ | (refine awp_regionK 5 rfl ?_; simp only [List.map_cons, List.map_nil]; simp (maxSteps := 1000000) (dsimp := false) (implicitDefEqProofs := false) (disch := omega) only [wrap64, go_sem]) | (refine awp_regionQK 5 (by kernel_rfl) (by kernel_rfl) (by kernel_rfl) ?_; simp only [List.map_cons, List.map_nil]; simp (maxSteps := 1000000) (dsimp := false) (implicitDefEqProofs := false) (disch := omega) only [wrap64, go_sem]) | refine awp_block ?_ | (refine awp_skip ?_; simp only [go_sem]) | (refine awp_exit ?_; simp only [go_sem]) | (refine awp_ret ?_; try simp only [go_sem]) | (refine awp_condP rfl ?_; try simp only [go_sem]) | (refine BrP.mk (fun h => ?_) (fun h => ?_) <;> try simp (dsimp := false) (disch := omega) only [wrap64]) | (refine Br.mk (fun h => ?_) (fun h => ?_) <;> try simp (dsimp := false) (disch := omega) only [wrap64]) | refine Ob.mk (by first | omega | (intro _ _; rfl) | trivial | (intros; trivial) | assumption | (intro i hi; have h0 : i = 0 := (by omega); subst h0; first | rfl | trivial) | (intro i hi; have h0 : i = 0 ∨ i = 1 := (by omega); rcases h0 with rfl | rfl <;> rfl) | (intro i hi; have h0 : i = 0 ∨ i = 1 ∨ i = 2 := (by omega); rcases h0 with rfl | rfl | rfl <;> rfl)) ?_ | apply_assumption -exfalso -symm)
  all_goals (first | (show endQ _ _ _ _ _ _ _; (repeat (rename (∀ (A : Fr) (H : Hp), AWP _ _ _ _ A H → _) => hK; clear hK)); (repeat (rename (Fr → Hp → Prop) => K; clear K))) | (show Exists _; (repeat (rename (∀ (A : Fr) (H : Hp), AWP _ _ _ _ A H → _) => hK; clear hK)); (repeat (rename (Fr → Hp → Prop) => K; clear K))) | skip)
  exact end_retB rfl rfl (by simp; omega)
theorem likeInts_ok (xs ys : List Int) (hlen : xs.length ≤ 9223372036854775807) : AC Tryd.prog 28 [ints xs, ints ys] Hp.emp (fun _ => false) (retV (.v (.bool (decide (xs = ys))))) := by
  refine ac_of_awp (N := ⟨_, fun _ => false, fun _ _ => rfl, true⟩) Tryd.func28 rfl (by kernel_rfl) Tryd.ntmps28 (by simp) ?_
  simp only [argsFr, List.zipIdx_cons, List.zipIdx_nil, go_sem]
  repeat' (first | refine awp_seqK fun K hK => ?_ | (refine awp_regionK 33571891 rfl ?_; simp only [List.map_cons, List.map_nil]; simp (maxSteps := 1000000) (dsimp := false) (implicitDefEqProofs := false) (disch := omega) only [wrap64, go_sem]) | (refine awp_regionQK 33571891 (by kernel_rfl) (by kernel_rfl) (by kernel_rfl) ?_; simp only [List.map_cons, List.map_nil]; simp (maxSteps := 1000000) (dsimp := false) (implicitDefEqProofs := false) (disch := omega) only [wrap64, go_sem]) | refine awp_block ?_ | (refine awp_skip ?_; simp only [go_sem]) | (refine awp_exit ?_; simp only [go_sem]) | (refine awp_ret ?_; try simp only [go_sem]) | (refine awp_condP rfl ?_; try simp only [go_sem]) | (refine BrP.mk (fun h => ?_) (fun h => ?_) <;> try simp (dsimp := false) (disch := omega) only [wrap64]) | (refine Br.mk (fun h => ?_) (fun h => ?_) <;> try simp (dsimp := false) (disch := omega) only [wrap64]) | refine Ob.mk (by first | omega | (intro _ _; rfl) | trivial | (intros; trivial) | assumption | (intro i hi; have h0 : i = 0 := (by omega); subst h0; first | rfl | trivial) | (intro i hi; have h0 : i = 0 ∨ i = 1 := (by omega); rcases h0 with rfl | rfl <;> rfl) | (intro i hi; have h0 : i = 0 ∨ i = 1 ∨ i = 2 := (by omega); rcases h0 with rfl | rfl | rfl <;> rfl)) ?_ | apply_assumption -exfalso -symm)
  all_goals (first | (show endQ _ _ _ _ _ _ _; (repeat (rename (∀ (A : Fr) (H : Hp), AWP _ _ _ _ A H → _) => hK; clear hK)); (repeat (rename (Fr → Hp → Prop) => K; clear K))) | (show Exists _; (repeat (rename (∀ (A : Fr) (H : Hp), AWP _ _ _ _ A H → _) => hK; clear hK)); (repeat (rename (Fr → Hp → Prop) => K; clear K))) | skip)
  · have hl : xs.length = ys.length := by omega
    refine awp_loop (ι := Nat) (fun k => [(5, .v (.int .i64 (k))), (0, .list false 1 (xs).length (cM iv 0 (xs))), (1, .list false 1 (ys).length (cM iv 0 (ys)))]) (fun k => Hp.emp) (fun k => k ≤ xs.length ∧ ∀ j, j < k → xs.getD j 0 = ys.getD j 0) (fun k => xs.length - k) 0 ?_ (Sub.toL (by simp only [go_sem] <;> first | trivial | (simp only [Option.some.injEq, AV.v.injEq, AV.own.injEq, AV.list.injEq, Value.int.injEq, Value.bool.injEq, true_and, and_true]; first | omega | (simp; done)) | (simp; done) | (simp; omega)) (by (repeat' (first | exact Hp.le_emp _ | exact Hp.le_refl _ | refine Hp.le_upd ?_ ?_)); all_goals (first | rfl | (simp only [go_sem]; first | rfl | (refine cellsE ?_ ?_ <;> (simp)) | (simp))))) ?_
    · exact ⟨Nat.zero_le _, fun j h => absurd h (Nat.not_lt_zero _)⟩
    intro k hk
    repeat' (first | refine awp_seqK fun K hK => ?_ | (refine awp_regionK 33571891 rfl ?_; simp only [List.map_cons, List.map_nil]; simp (maxSteps := 1000000) (dsimp := false) (implicitDefEqProofs := false) (disch := omega) only [wrap64, go_sem]) | (refine awp_regionQK 33571891 (by kernel_rfl) (by kernel_rfl) (by kernel_rfl) ?_; simp only [List.map_cons, List.map_nil]; simp (maxSteps := 1000000) (dsimp := false) (implicitDefEqProofs := false) (disch := omega) only [wrap64, go_sem]) | refine awp_block ?_ | (refine awp_skip ?_; simp only [go_sem]) | (refine awp_exit ?_; simp only [go_sem]) | (refine awp_ret ?_; try simp only [go_sem]) | (refine awp_condP rfl ?_; try simp only [go_sem]) | (refine BrP.mk (fun h => ?_) (fun h => ?_) <;> try simp (dsimp := false) (disch := omega) only [wrap64]) | (refine Br.mk (fun h => ?_) (fun h => ?_) <;> try simp (dsimp := false) (disch := omega) only [wrap64]) | refine Ob.mk (by first | omega | (intro _ _; rfl) | trivial | (intros; trivial) | assumption | (intro i hi; have h0 : i = 0 := (by omega); subst h0; first | rfl | trivial) | (intro i hi; have h0 : i = 0 ∨ i = 1 := (by omega); rcases h0 with rfl | rfl <;> rfl) | (intro i hi; have h0 : i = 0 ∨ i = 1 ∨ i = 2 := (by omega); rcases h0 with rfl | rfl | rfl <;> rfl)) ?_ | apply_assumption -exfalso -symm)
    all_goals (first | (show endQ _ _ _ _ _ _ _; (repeat (rename (∀ (A : Fr) (H : Hp), AWP _ _ _ _ A H → _) => hK; clear hK)); (repeat (rename (Fr → Hp → Prop) => K; clear K))) | (show Exists _; (repeat (rename (∀ (A : Fr) (H : Hp), AWP _ _ _ _ A H → _) => hK; clear hK)); (repeat (rename (Fr → Hp → Prop) => K; clear K))) | skip)
    · refine ⟨k + 1, ?_, ?_, Sub.toL (by simp only [go_sem] <;> first | trivial | (simp only [Option.some.injEq, AV.v.injEq, AV.own.injEq, AV.list.injEq, Value.int.injEq, Value.bool.injEq, true_and, and_true]; first | omega | (simp; done)) | (simp; done) | (simp; omega)) (by (repeat' (first | exact Hp.le_emp _ | exact Hp.le_refl _ | refine Hp.le_upd ?_ ?_)); all_goals (first | rfl | (simp only [go_sem]; first | rfl | (refine cellsE ?_ ?_ <;> (simp)) | (simp))))⟩
      · refine ⟨by omega, fun j hj => ?_⟩
        by_cases e : j = k
        · subst e; assumption
        · exact hk.2 j (by omega)
      · omega
    · refine end_retB rfl rfl ?_
      simp only [Bool.false_eq_true, false_iff]
      rintro rfl
      exact absurd rfl ‹¬_›
    · refine end_retB rfl rfl ?_
      simp only [true_iff]
      exact eq_of_getD hl fun j hj => hk.2 j (by omega)
  · refine end_retB rfl rfl ?_
    simp only [Bool.false_eq_true, false_iff]
    rintro rfl
    omega
theorem roll_ok (xs : List Int) (sd : Int) (hx : ∀ j, 0 ≤ xs.getD j 0 ∧ xs.getD j 0 ≤ 255) (hl : xs.length ≤ 4096) : AC Tryd.prog 18 [bts xs, .v (.int .u64 sd)] Hp.emp (fun _ => false) (postD .u64 fun r => r = .ref 1000000 0) := by
  refine ac_of_awp (N := ⟨_, fun _ => false, fun _ _ => rfl, true⟩) Tryd.func18 rfl (by kernel_rfl) Tryd.ntmps18 (by simp) ?_
  simp only [argsFr, List.zipIdx_cons, List.zipIdx_nil, go_sem]
  unfold bts
  repeat' (first | refine awp_seqK fun K hK => ?_ | (refine awp_regionK 524403 rfl ?_; simp only [List.map_cons, List.map_nil]; simp (maxSteps := 1000000) (dsimp := false) (implicitDefEqProofs := false) (disch := omega) only [wrap64, go_sem]) | (refine awp_regionQK 524403 (by kernel_rfl) (by kernel_rfl) (by kernel_rfl) ?_; simp only [List.map_cons, List.map_nil]; simp (maxSteps := 1000000) (dsimp := false) (implicitDefEqProofs := false) (disch := omega) only [wrap64, go_sem]) | refine awp_block ?_ | (refine awp_skip ?_; simp only [go_sem]) | (refine awp_exit ?_; simp only [go_sem]) | (refine awp_ret ?_; try simp only [go_sem]) | (refine awp_condP rfl ?_; try simp only [go_sem]) | (refine BrP.mk (fun h => ?_) (fun h => ?_) <;> try simp (dsimp := false) (disch := omega) only [wrap64]) | (refine Br.mk (fun h => ?_) (fun h => ?_) <;> try simp (dsimp := false) (disch := omega) only [wrap64]) | refine Ob.mk (by first | omega | (intro _ _; rfl) | trivial | (intros; trivial) | assumption | (intro i hi; have h0 : i = 0 := (by omega); subst h0; first | rfl | trivial) | (intro i hi; have h0 : i = 0 ∨ i = 1 := (by omega); rcases h0 with rfl | rfl <;> rfl) | (intro i hi; have h0 : i = 0 ∨ i = 1 ∨ i = 2 := (by omega); rcases h0 with rfl | rfl | rfl <;> rfl)) ?_ | apply_assumption -exfalso -symm)
  all_goals (first | (show endQ _ _ _ _ _ _ _; (repeat (rename (∀ (A : Fr) (H : Hp), AWP _ _ _ _ A H → _) => hK; clear hK)); (repeat (rename (Fr → Hp → Prop) => K; clear K))) | (show Exists _; (repeat (rename (∀ (A : Fr) (H : Hp), AWP _ _ _ _ A H → _) => hK; clear hK)); (repeat (rename (Fr → Hp → Prop) => K; clear K))) | skip)
  refine awp_loop (ι := Nat × Int) (fun k => [(6, .v (.int .i64 (k.1))), (5, .ref 15 0), (0, bts xs)]) (fun k => Hp.emp.upd 15 (.cells 3 (vecF [bts xs, .v (.int .i64 (0)), .v (.int .u64 k.2)]))) (fun k => k.1 ≤ xs.length) (fun k => xs.length - k.1) (0, _) (Nat.zero_le _) (Sub.toLF (by simp only [go_sem] <;> first | trivial | (simp only [Option.some.injEq, AV.v.injEq, AV.own.injEq, AV.list.injEq, Value.int.injEq, Value.bool.injEq, true_and, and_true]; first | omega | (simp; done)) | (simp; done) | (simp; omega)) (leF_upd rfl (bfE rfl (c3 rfl rfl rfl)) leF_emp id)) ?_
  rintro ⟨k, z⟩ hk
  dsimp only at hk ⊢
  repeat' (first | (refine awp_regionEK 524403 15 (by kernel_rfl) (by kernel_rfl) (by kernel_rfl) ?_; simp only [List.map_cons, List.map_nil, opsE, List.take_succ_cons, List.take_zero, List.drop_succ_cons, List.drop_zero]; simp (maxSteps := 1000000) (dsimp := false) (implicitDefEqProofs := false) (disch := omega) only [wrap64, go_sem]) | refine awp_seqK fun K hK => ?_ | (refine awp_regionK 524403 rfl ?_; simp only [List.map_cons, List.map_nil]; simp (maxSteps := 1000000) (dsimp := false) (implicitDefEqProofs := false) (disch := omega) only [wrap64, go_sem]) | (refine awp_regionQK 524403 (by kernel_rfl) (by kernel_rfl) (by kernel_rfl) ?_; simp only [List.map_cons, List.map_nil]; simp (maxSteps := 1000000) (dsimp := false) (implicitDefEqProofs := false) (disch := omega) only [wrap64, go_sem]) | refine awp_block ?_ | (refine awp_skip ?_; simp only [go_sem]) | (refine awp_exit ?_; simp only [go_sem]) | (refine awp_ret ?_; try simp only [go_sem]) | (refine awp_condP rfl ?_; try simp only [go_sem]) | (refine BrP.mk (fun h => ?_) (fun h => ?_) <;> try simp (dsimp := false) (disch := omega) only [wrap64]) | (refine Br.mk (fun h => ?_) (fun h => ?_) <;> try simp (dsimp := false) (disch := omega) only [wrap64]) | refine Ob.mk (by first | omega | (intro _ _; rfl) | trivial | (intros; trivial) | assumption | (intro i hi; have h0 : i = 0 := (by omega); subst h0; first | rfl | trivial) | (intro i hi; have h0 : i = 0 ∨ i = 1 := (by omega); rcases h0 with rfl | rfl <;> rfl) | (intro i hi; have h0 : i = 0 ∨ i = 1 ∨ i = 2 := (by omega); rcases h0 with rfl | rfl | rfl <;> rfl)) ?_ | apply_assumption -exfalso -symm)
  all_goals (first | (show endQ _ _ _ _ _ _ _; (repeat (rename (∀ (A : Fr) (H : Hp), AWP _ _ _ _ A H → _) => hK; clear hK)); (repeat (rename (Fr → Hp → Prop) => K; clear K))) | (show Exists _; (repeat (rename (∀ (A : Fr) (H : Hp), AWP _ _ _ _ A H → _) => hK; clear hK)); (repeat (rename (Fr → Hp → Prop) => K; clear K))) | skip)
  · exact ⟨(k + 1, IntKind.u64.wrap (IntKind.u64.wrap (IntKind.u64.wrap (z * 1099511628211) + IntKind.u64.wrap (xs.getD k 0)) + 3)), by omega, by omega, Sub.toLF (by simp only [go_sem] <;> first | trivial | (simp only [Option.some.injEq, AV.v.injEq, AV.own.injEq, AV.list.injEq, Value.int.injEq, Value.bool.injEq, true_and, and_true]; first | omega | (simp; done)) | (simp; done) | (simp; omega)) (leF_upd rfl (bfE rfl (c3 rfl rfl rfl)) leF_emp id)⟩
  · refine end_postS (H' := DH .u64 ⟨xs, 0, z, Nat.zero_le _, hx, hl⟩) rfl (Sub.layM (fun h => if h = 1000000 then some 15 else none) rfl (lay_cons ⟨_, rfl, .ref rfl⟩ lay_nil) (layF_upd (g := 15) (n := 3) rfl rfl (fun i hi => ?_) layF_emp) ?_) ⟨_, rfl, rfl⟩
    · match i, hi with
      | 0, _ => exact .plain trivial
      | 1, _ => exact .plain trivial
      | 2, _ => exact .plain trivial
    · intro x y k hx hy h1 h2
      split at h1
      · split at h2
        · omega
        · cases h2
      · cases h1
end Go.Proofs.YticbabpajligbaaDoor
end
/- The reference's parser of notations: items and sequences. -/
section
namespace Go.Proofs.YticbabpajligbaaDoor
open Go.Av
set_option linter.unusedSimpArgs false
set_option linter.unusedVariables false
attribute [local irreducible] AWP CallG Ob Br BrP Go.Av.Sub endQ AOps OpV AC thenA blkA opsVC opVC withA withArgs opsQ opQ CallQ withA2 withArgs2
open Go.Nt (Nd nd0 kd li liF dig pInv pSuf pItem pSeq Pr Goes nmOk)
/-- What the parser of sequences leaves. -/
abbrev hQ (l : List Nd) (ks : List Int) : Hp := (Hp.emp.upd 1000000 (.cells (l.length * 6) (ndF l))).upd 1000001 (.cells ks.length (cM iv 0 ks))
section
variable {P : Program} {N : Cx} {A A' : Fr} {H H' : Hp}
end
end Go.Proofs.YticbabpajligbaaDoor
end
/- The reference's parser of notations: the walks. -/
section
namespace Go.Proofs.YticbabpajligbaaDoor
open Go.Av
set_option linter.unusedSimpArgs false
set_option linter.unusedVariables false
attribute [local irreducible] AWP CallG Ob Br BrP Go.Av.Sub endQ AOps OpV AC thenA blkA opsVC opVC withA withArgs opsQ opQ CallQ withA2 withArgs2
open Go.Nt (Nd nd0 kd li liF dig pInv pSuf pItem pSeq Pr Goes nmOk pItem_goes pSeq_goes)
theorem pSeq_succ (names s : ByteArray) (f p : Nat) (l : List Nd) (ks : List Int) : pSeq names s (f + 1) p l ks = match pItem names s f p l with
    | .out => .out
    | .bad w => .bad w
    | .ok q l' _ => if Go.Nt.bt s q = 32 then pSeq names s f (q + 1) l' (ks ++ [(l'.length : Int) - 1]) else .ok q l' (ks ++ [(l'.length : Int) - 1]) := by
  rw [pSeq]; rfl
theorem sq_ks {names s : ByteArray} (hn : nmOk names) : ∀ (f p : Nat) (l : List Nd) (ks0 : List Int) (q : Nat) (l' : List Nd) (ks : List Int), p ≤ s.size → 2 * (s.size - p) + 2 ≤ f → pSeq names s f p l ks0 = .ok q l' ks → ks.length + l.length ≤ ks0.length + l'.length
  | 0, p, l, ks0, q, l', ks, hp, hf, e => by omega
  | f + 1, p, l, ks0, q, l', ks, hp, hf, e => by
    rw [pSeq_succ] at e
    rcases pItem_goes names s hn f p l hp (by omega) with ⟨w, a, _⟩ | ⟨q2, l2, a, hg⟩
    · rw [a] at e; cases e
    · rw [a] at e
      dsimp only at e
      have h1 := hg.len
      have h2 := hg.lt
      have h3 := hg.le
      split at e
      · rename_i h32
        have h4 := (bt_in s q2).1
        have := sq_ks hn f (q2 + 1) l2 _ q l' ks (by omega) (by omega) e
        rw [List.length_append, List.length_singleton] at this
        omega
      · cases e
        rw [List.length_append, List.length_singleton]
        omega
theorem sq_ks0 {names s : ByteArray} (hn : nmOk names) {f p q : Nat} {l l' : List Nd} {ks : List Int} (hp : p ≤ s.size) (hf : 2 * (s.size - p) + 2 ≤ f) (e : pSeq names s f p l [] = .ok q l' ks) : ks.length + l.length ≤ l'.length := by
  have := sq_ks hn f p l [] q l' ks hp hf e
  rwa [List.length_nil, Nat.zero_add] at this
end Go.Proofs.YticbabpajligbaaDoor
end
/- The reference's parser of notations: brackets and items. -/
section
namespace Go.Proofs.YticbabpajligbaaDoor
open Go.Av
set_option linter.unusedSimpArgs false
set_option linter.unusedVariables false
attribute [local irreducible] AWP CallG Ob Br BrP Go.Av.Sub endQ AOps OpV AC thenA blkA opsVC opVC withA withArgs opsQ opQ CallQ withA2 withArgs2
open Go.Nt (Nd nd0 kd li liF dig pInv pSuf pItem pSeq Pr Goes nmOk pItem_goes pSeq_goes)
section
variable {P : Program} {N : Cx} {A A' : Fr} {H H' : Hp}
end
def pBr (names s : ByteArray) (f p : Nat) (l : List Nd) : Pr Unit := match pSeq names s f p l [] with
  | .out => .out
  | .bad w => .bad w
  | .ok q l1 a =>
    if Go.Nt.bt s q = 58 ∨ Go.Nt.bt s q = 44 then
      match pSeq names s f (q + 1) l1 [] with
      | .out => .out
      | .bad w => .bad w
      | .ok r l2 b => if Go.Nt.bt s r = 93 then pSuf s (r + 1) l2 ⟨if Go.Nt.bt s q = 58 then 4 else 3, 0, 0, 0, (a.length : Int), a ++ b⟩ else .bad r
    else .bad q
section
variable {names s : ByteArray} {f p : Nat} {l : List Nd}
end
def zPs : Nat → AV := zF [.string ⟨#[]⟩, .string ⟨#[]⟩, .int .i64 0, .slice none 0 0, .int .i64 0]
/-- What lies in memory while a bracket is read. -/
def hB1 (names s : ByteArray) (q : Nat) (l : List Nd) (a : List Int) (k : Int) : Hp := ((((Hp.emp.upd 1000000 (.cells (l.length * 6) (ndF l))).upd 77 (.cells a.length (cM iv 0 a))).upd 5 (.cells 6 (vecF [.v (.int .i64 (k)), .v (.int .i64 (0)), .v (.int .i64 (0)), .v (.int .i64 (0)), .v (.int .i64 (a.length)), .v (.slice none 0 0)]))).upd 3 (.cells 5 (vecF [.v (.string (names)), .v (.string (s)), .v (.int .i64 ((q : Nat))), .own 1000000 0 6 l.length, .v (.int .i64 ((-1 : Int)))]))).upd 2 (.cells 5 zPs)
/-- .. once both its parts are read. -/
def hB2 (names s : ByteArray) (q : Nat) (l : List Nd) (a : List Int) (n : Nat) (k : Int) : Hp := (((Hp.emp.upd 1000000 (.cells (l.length * 6) (ndF l))).upd 5 (.cells 6 (vecF [.v (.int .i64 (k)), .v (.int .i64 (0)), .v (.int .i64 (0)), .v (.int .i64 (0)), .v (.int .i64 (n)), .list false 1 (a).length (cM iv 0 (a))]))).upd 6 (.cells 5 (vecF [.v (.string (names)), .v (.string (s)), .v (.int .i64 ((q : Nat))), .own 1000000 0 6 l.length, .v (.int .i64 ((-1 : Int)))]))).upd 2 (.cells 5 zPs)
end Go.Proofs.YticbabpajligbaaDoor
end
/- The reference's parser of notations: items; the parser whole. -/
section
namespace Go.Proofs.YticbabpajligbaaDoor
open Go.Av
set_option linter.unusedSimpArgs false
set_option linter.unusedVariables false
attribute [local irreducible] AWP CallG Ob Br BrP Go.Av.Sub endQ AOps OpV AC thenA blkA opsVC opVC withA withArgs opsQ opQ CallQ withA2 withArgs2
open Go.Nt (Nd nd0 kd li liF dig pInv pSuf pItem pSeq Pr Goes nmOk pItem_goes pSeq_goes)
section
variable {P : Program} {N : Cx} {A A' : Fr} {H H' : Hp}
/-- One cell is told as another, or nil as a row without elements. -/
def CellTo (g f : AV) : Prop := f = g ∨ (g = .v (.slice none 0 0) ∧ ∃ sz F, f = .list false sz 0 F)
theorem CellTo.rd {g f : AV} (h : CellTo g f) {w : World} {ok : Nat → Prop} {L : Go.Av.Loc} {u : Value} (hu : Rd w ok L g u) : Rd w ok L f u := by
  rcases h with rfl | ⟨rfl, sz, F, rfl⟩
  · exact hu
  · cases hu
    exact ⟨none, 0, rfl, Nat.le_refl _, by simp, fun _ => ⟨rfl, rfl⟩, by simp⟩
end
section
variable {names s : ByteArray} {f p : Nat} {l : List Nd}
theorem liI_some {c : Nat} (h : 0 ≤ liI names c) : ∃ m, li names c = some m ∧ liI names c = (m : Int) := by
  unfold liI at h ⊢
  cases e : li names c with
  | some m => exact ⟨m, rfl, rfl⟩
  | none => rw [e] at h; simp only at h; omega
theorem liI_none {c : Nat} (h : ¬ 0 ≤ liI names c) : li names c = none := by
  unfold liI at h
  cases e : li names c with
  | some m => rw [e] at h; simp only at h; omega
  | none => rfl
theorem pIt_mv (h : 0 ≤ liI names (Go.Nt.bt s p)) : pItem names s (f + 1) p l = pSuf s (p + 1) l ⟨1, liI names (Go.Nt.bt s p), 0, 0, 0, []⟩ := by
  obtain ⟨m, e1, e2⟩ := liI_some h
  rw [pItem, e1, e2]
theorem pIt_sq (h : ¬ 0 ≤ liI names (Go.Nt.bt s p)) (h2 : Go.Nt.bt s p = 40) : pItem names s (f + 1) p l = match pSeq names s f (p + 1) l [] with
    | .out => .out
    | .bad w => .bad w
    | .ok q l' ks => if Go.Nt.bt s q = 41 then pSuf s (q + 1) l' ⟨2, 0, 0, 0, 0, ks⟩ else .bad q := by
  rw [pItem, liI_none h]; dsimp only; rw [if_pos h2]
  rfl
theorem pIt_br (h : ¬ 0 ≤ liI names (Go.Nt.bt s p)) (h2 : Go.Nt.bt s p = 91) : pItem names s (f + 1) p l = pBr names s f (p + 1) l := by
  rw [pItem, liI_none h]; dsimp only; rw [if_neg (by omega), if_pos h2]
  rfl
theorem pIt_no (h : ¬ 0 ≤ liI names (Go.Nt.bt s p)) (h2 : ¬ Go.Nt.bt s p = 40) (h3 : ¬ Go.Nt.bt s p = 91) : pItem names s (f + 1) p l = .bad p := by
  rw [pItem, liI_none h]; dsimp only; rw [if_neg h2, if_neg h3]
end
end Go.Proofs.YticbabpajligbaaDoor
end
/- The place of a byte in a text: what the library's own function answers. -/
section
namespace Go.Proofs.YticbabpajligbaaDoor
open Go.Av
open Go.Nt (li liF)
set_option linter.unusedSimpArgs false
set_option linter.unusedVariables false
set_option maxHeartbeats 1000000 in
set_option maxRecDepth 100000 in
theorem slIndexByte (s : ByteArray) (c : Int) (w : World) :
    Calls Tryd.prog 128 #[.string s, .int .u8 c] w fun e w' => e = .returned (.int .i64 (Lib.indexByte s.data.toList c.toNat.toUInt8)) ∧ w' = w := by
  go_enter Tryd.func128, Tryd.ntmps128
  go_wp2
  rw [run_callFunc_extern Tryd.func134 (by kernel_rfl) (by kernel_rfl) (by kernel_rfl) (e := Extern.BytealgIndexByte.indexByte) (by kernel_rfl), Lib.run_indexByteString]
  simp only [Result.andThen]
  rw [Oper.upon_value]
  go_wp2
  go_ret
  exact ⟨rfl, rfl⟩
theorem ib_hit {c : UInt8} : ∀ (l : List UInt8) (i : Nat), i < l.length → l.getD i 0 = c → (∀ j, j < i → l.getD j 0 ≠ c) → Lib.indexByte l c = (i : Int)
  | [], i, h, _, _ => absurd h (Nat.not_lt_zero _)
  | b :: l, 0, _, h1, _ => by
    have : b = c := h1
    unfold Lib.indexByte
    rw [if_pos (by rw [this]; exact beq_self_eq_true c)]; rfl
  | b :: l, i + 1, h, h1, h2 => by
    have hb : ¬ (b == c) = true := by
      rw [beq_iff_eq]; exact h2 0 (by omega)
    have ih := ib_hit l i (by simpa using h) (by simpa using h1) (fun j hj => by simpa using h2 (j + 1) (by omega))
    unfold Lib.indexByte
    rw [if_neg hb, ih, if_neg (by rw [beq_iff_eq]; omega)]
    rfl
theorem ib_miss {c : UInt8} : ∀ (l : List UInt8), (∀ j, j < l.length → l.getD j 0 ≠ c) → Lib.indexByte l c = -1
  | [], _ => rfl
  | b :: l, h => by
    have hb : ¬ (b == c) = true := by
      rw [beq_iff_eq]; exact h 0 (by simp)
    have ih := ib_miss l (fun j hj => by simpa using h (j + 1) (by simpa using hj))
    unfold Lib.indexByte
    rw [if_neg hb, ih]; rfl
theorem u8_eq {x : UInt8} {c : Nat} (hc : c < 256) : x = c.toUInt8 ↔ x.toNat = c := by
  constructor
  · intro h
    rw [h]
    show (UInt8.ofNat c).toNat = c
    rw [UInt8.toNat_ofNat']
    exact Nat.mod_eq_of_lt hc
  · intro h
    rw [← h]
    exact (UInt8.ofNat_toNat (x := x)).symm
theorem ib_li {names : ByteArray} {c : Nat} (hc : c < 256) : Lib.indexByte names.data.toList c.toUInt8 = liI names c := by
  have hl : names.data.toList.length = names.size := by simp
  unfold liI
  cases e : li names c with
  | some m =>
    obtain ⟨h1, h2, h3⟩ := Go.Nt.liF_some e
    exact ib_hit _ m (by rw [hl]; exact h1) ((u8_eq hc).2 h2) (fun j hj h => h3 j hj ((u8_eq hc).1 h))
  | none => exact ib_miss _ fun j hj h => Go.Nt.liF_none e j (by rw [← hl]; exact hj) ((u8_eq hc).1 h)
theorem AC.of2 {P : Program} {f : FuncId} {x y z : Value} (hc : callable P f = true) (h : ∀ w, Calls P f #[x, y] w fun e w' => e = .returned z ∧ w' = w) : AC P f [.v x, .v y] Hp.emp (fun _ => false) (retV (.v z)) := by
  refine ⟨hc, fun S w L vs h1 h2 s ha => ?_⟩
  obtain ⟨hz, hv⟩ := ha
  have e : vs = #[x, y] := by
    obtain ⟨u, e1, e2⟩ := hv 0 _ rfl
    obtain ⟨v, e3, e4⟩ := hv 1 _ rfl
    cases e2
    cases e4
    refine Array.ext (by simpa using hz) fun i h1 h2 => ?_
    have h2' : i < 2 := h2
    match i, h2' with
    | 0, _ => have := (Array.getElem?_eq_some_iff.1 e1).2; simpa using this
    | 1, _ => have := (Array.getElem?_eq_some_iff.1 e3).2; simpa using this
  subst e
  refine (h w).mono ?_
  rintro e w' ⟨rfl, rfl⟩
  exact ⟨z, L, .v z, Hp.emp, rfl, s, rfl, rfl, rfl⟩
theorem slIndexByte_ok (s : ByteArray) (c : Nat) (hc : c < 256) : AC Tryd.prog 128 [.v (.string (s)), .v (.int .u8 (c : Nat))] Hp.emp (fun _ => false) (retV (.v (.int .i64 (liI s c)))) := by
  refine AC.of2 (by kernel_rfl) fun w => ?_
  have := slIndexByte s (c : Nat) w
  rw [Int.toNat_natCast, ib_li hc] at this
  exact this
attribute [local irreducible] AWP CallG Ob Br BrP Go.Av.Sub endQ AOps OpV AC thenA blkA opsVC opVC withA withArgs opsQ opQ CallQ withA2 withArgs2
theorem indexByte_ok (s : ByteArray) (c : Nat) (hc : c < 256) : AC Tryd.prog 116 [.v (.string (s)), .v (.int .u8 (c : Nat))] Hp.emp (fun _ => false) (retV (.v (.int .i64 (liI s c)))) := by
  refine ac_of_awp (N := ⟨_, fun _ => false, fun _ _ => rfl, true⟩) Tryd.func116 rfl (by kernel_rfl) Tryd.ntmps116 (by simp) ?_
  simp only [argsFr, List.zipIdx_cons, List.zipIdx_nil, go_sem]
  repeat' (first | refine awp_seqK fun K hK => ?_ | (refine awp_regionK 19 rfl ?_; simp only [List.map_cons, List.map_nil]; simp (maxSteps := 1000000) (dsimp := false) (implicitDefEqProofs := false) (disch := omega) only [wrap64, go_sem]) | (refine awp_regionQK 19 (by kernel_rfl) (by kernel_rfl) (by kernel_rfl) ?_; simp only [List.map_cons, List.map_nil]; simp (maxSteps := 1000000) (dsimp := false) (implicitDefEqProofs := false) (disch := omega) only [wrap64, go_sem]) | refine awp_block ?_ | (refine awp_skip ?_; simp only [go_sem]) | (refine awp_exit ?_; simp only [go_sem]) | (refine awp_ret ?_; try simp only [go_sem]) | (refine awp_condP rfl ?_; try simp only [go_sem]) | (refine BrP.mk (fun h => ?_) (fun h => ?_) <;> try simp (dsimp := false) (disch := omega) only [wrap64]) | (refine Br.mk (fun h => ?_) (fun h => ?_) <;> try simp (dsimp := false) (disch := omega) only [wrap64]) | refine Ob.mk (by first | omega | (intro _ _; rfl) | trivial | (intros; trivial) | assumption | (intro i hi; have h0 : i = 0 := (by omega); subst h0; first | rfl | trivial) | (intro i hi; have h0 : i = 0 ∨ i = 1 := (by omega); rcases h0 with rfl | rfl <;> rfl) | (intro i hi; have h0 : i = 0 ∨ i = 1 ∨ i = 2 := (by omega); rcases h0 with rfl | rfl | rfl <;> rfl)) ?_ | ((first | ((first | refine atF (f := 128) ?_ | refine atQ (f := 128) ?_); (first | (refine cV (hac := slIndexByte_ok s c hc) (hK := ?_)) | (refine cQV (hac := slIndexByte_ok s c hc) (hK := ?_))))); simp (maxSteps := 1000000) (dsimp := false) (implicitDefEqProofs := false) (disch := omega) only [wrap64, go_sem]) | apply_assumption -exfalso -symm)
  all_goals (first | (show endQ _ _ _ _ _ _ _; (repeat (rename (∀ (A : Fr) (H : Hp), AWP _ _ _ _ A H → _) => hK; clear hK)); (repeat (rename (Fr → Hp → Prop) => K; clear K))) | (show Exists _; (repeat (rename (∀ (A : Fr) (H : Hp), AWP _ _ _ _ A H → _) => hK; clear hK)); (repeat (rename (Fr → Hp → Prop) => K; clear K))) | skip)
  exact end_retV rfl rfl
end Go.Proofs.YticbabpajligbaaDoor
end
