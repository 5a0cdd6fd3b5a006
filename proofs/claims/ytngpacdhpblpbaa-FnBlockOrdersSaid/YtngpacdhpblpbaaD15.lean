import Derived.Test.YtngpacdhpblpbaaD13
import Derived.Test.YtngpacdhpblpbaaD5
import Derived.Test.YtngpacdhpblpbaaD3
/- Partitions and block systems, the reference: looking at them. -/
section
namespace Go.Proofs.Ytngpacdhpblpbaa
open Go.Av
set_option linter.unusedSimpArgs false
set_option linter.unusedVariables false
attribute [local irreducible] AWP CallG Ob Br BrP Go.Av.Sub endQ AOps OpV AC thenA blkA opsVC opVC withA withArgs opsQ opQ CallQ withA2 withArgs2
open Go.Pm (Pm ptI partI IsPart ixP Rsp rspI actP img invp)
noncomputable instance (n : Int) (b : List Int) : Decidable (ptI n b) := Classical.propDecidable _
noncomputable instance (n : Int) (bs : List (List Int)) : Decidable (partI n bs) := Classical.propDecidable _
theorem specIsPointSet_ok (n : Int) (b : List Int) (hn : 1 ≤ n ∧ n ≤ 20) (hl : b.length ≤ 1000000) : AC Try.prog 148 [.v (.int .i64 (n)), ints b] Hp.emp (fun _ => false) (retV (.v (.bool (decide (ptI n b))))) := by
  refine ac_of_awp (N := ⟨_, fun _ => false, fun _ _ => rfl⟩) Try.func148 rfl (by kernel_rfl) Try.ntmps148 (by simp) ?_
  simp only [argsFr, List.zipIdx_cons, List.zipIdx_nil, go_sem]
  repeat' (first | refine awp_seqK fun K hK => ?_ | (refine awp_regionK 274877915699 rfl ?_; simp only [List.map_cons, List.map_nil]; simp (maxSteps := 1000000) (dsimp := false) (implicitDefEqProofs := false) (disch := omega) only [wrap64, go_sem]) | (refine awp_regionQK 274877915699 (by kernel_rfl) (by kernel_rfl) (by kernel_rfl) ?_; simp only [List.map_cons, List.map_nil]; simp (maxSteps := 1000000) (dsimp := false) (implicitDefEqProofs := false) (disch := omega) only [wrap64, go_sem]) | refine awp_block ?_ | (refine awp_skip ?_; simp only [go_sem]) | (refine awp_exit ?_; simp only [go_sem]) | (refine awp_ret ?_; try simp only [go_sem]) | (refine awp_condP rfl ?_; try simp only [go_sem]) | (refine BrP.mk (fun h => ?_) (fun h => ?_) <;> try simp (dsimp := false) (disch := omega) only [wrap64]) | (refine Br.mk (fun h => ?_) (fun h => ?_) <;> try simp (dsimp := false) (disch := omega) only [wrap64]) | refine Ob.mk (by first | omega | (intro _ _; rfl) | trivial | (intros; trivial) | assumption | (intro i hi; have h0 : i = 0 := (by omega); subst h0; first | rfl | trivial) | (intro i hi; have h0 : i = 0 ∨ i = 1 := (by omega); rcases h0 with rfl | rfl <;> rfl) | (intro i hi; have h0 : i = 0 ∨ i = 1 ∨ i = 2 := (by omega); rcases h0 with rfl | rfl | rfl <;> rfl)) ?_ | apply_assumption -exfalso -symm)
  all_goals (first | (show endQ _ _ _ _ _ _ _; (repeat (rename (∀ (A : Fr) (H : Hp), AWP _ _ _ _ A H → _) => hK; clear hK)); (repeat (rename (Fr → Hp → Prop) => K; clear K))) | (show Exists _; (repeat (rename (∀ (A : Fr) (H : Hp), AWP _ _ _ _ A H → _) => hK; clear hK)); (repeat (rename (Fr → Hp → Prop) => K; clear K))) | skip)
  · refine end_retB rfl rfl ?_
    simp only [Bool.false_eq_true, false_iff]
    intro h
    have := Go.Pm.ptI_len h (by omega)
    omega
  · refine awp_loop (ι := Nat) (fun k => [(5, .v (.int .i64 ((k : Nat)))), (0, .v (.int .i64 (n))), (1, .list false 1 (b).length (cM iv 0 (b)))]) (fun k => Hp.emp) (fun k => k ≤ b.length ∧ Hold (∀ i, i < k → (0 ≤ b.getD i 0 ∧ b.getD i 0 ≤ n - 1) ∧ (0 < i → b.getD (i - 1) 0 < b.getD i 0))) (fun k => b.length - k) 0 ?_ (Sub.toL (by simp only [go_sem] <;> first | trivial | (simp only [Option.some.injEq, AV.v.injEq, AV.own.injEq, AV.list.injEq, Value.int.injEq, Value.bool.injEq, true_and, and_true]; first | omega | (simp; done)) | (simp; done) | (simp; omega)) (by (repeat' (first | exact Hp.le_emp _ | exact Hp.le_refl _ | refine Hp.le_upd ?_ ?_)); all_goals (first | rfl | (simp only [go_sem]; first | rfl | (refine cellsE ?_ ?_ <;> (simp)) | (simp))))) ?_
    · exact ⟨Nat.zero_le _, ⟨fun i h => absurd h (Nat.not_lt_zero _)⟩⟩
    rintro k ⟨hk, hv⟩
    have hm1 : 0 < k → (((k : Nat) : Int) - 1).toNat = k - 1 := by omega
    repeat' (first | refine awp_seqK fun K hK => ?_ | (refine awp_regionK 274877915699 rfl ?_; simp only [List.map_cons, List.map_nil]; simp (maxSteps := 1000000) (dsimp := false) (implicitDefEqProofs := false) (disch := omega) only [wrap64, go_sem, hm1]) | (refine awp_regionQK 274877915699 (by kernel_rfl) (by kernel_rfl) (by kernel_rfl) ?_; simp only [List.map_cons, List.map_nil]; simp (maxSteps := 1000000) (dsimp := false) (implicitDefEqProofs := false) (disch := omega) only [wrap64, go_sem, hm1]) | refine awp_block ?_ | (refine awp_skip ?_; simp only [go_sem, hm1]) | (refine awp_exit ?_; simp only [go_sem, hm1]) | (refine awp_ret ?_; try simp only [go_sem, hm1]) | (refine awp_condP rfl ?_; try simp only [go_sem, hm1]) | (refine BrP.mk (fun h => ?_) (fun h => ?_) <;> try simp (dsimp := false) (disch := omega) only [wrap64]) | (refine Br.mk (fun h => ?_) (fun h => ?_) <;> try simp (dsimp := false) (disch := omega) only [wrap64]) | refine Ob.mk (by first | omega | (intro _ _; rfl) | trivial | (intros; trivial) | assumption | (intro i hi; have h0 : i = 0 := (by omega); subst h0; first | rfl | trivial) | (intro i hi; have h0 : i = 0 ∨ i = 1 := (by omega); rcases h0 with rfl | rfl <;> rfl) | (intro i hi; have h0 : i = 0 ∨ i = 1 ∨ i = 2 := (by omega); rcases h0 with rfl | rfl | rfl <;> rfl)) ?_ | ((first | ((first | refine atF (f := 94) ?_ | refine atQ (f := 94) ?_); (first | (refine cV (hac := specIsPoint_ok n _ (by omega)) (hK := ?_)) | (refine cQV (hac := specIsPoint_ok n _ (by omega)) (hK := ?_))))); simp (maxSteps := 1000000) (dsimp := false) (implicitDefEqProofs := false) (disch := omega) only [wrap64, go_sem, hm1]) | apply_assumption -exfalso -symm)
    all_goals (first | (show endQ _ _ _ _ _ _ _; (repeat (rename (∀ (A : Fr) (H : Hp), AWP _ _ _ _ A H → _) => hK; clear hK)); (repeat (rename (Fr → Hp → Prop) => K; clear K))) | (show Exists _; (repeat (rename (∀ (A : Fr) (H : Hp), AWP _ _ _ _ A H → _) => hK; clear hK)); (repeat (rename (Fr → Hp → Prop) => K; clear K))) | skip)
    · refine end_retB rfl rfl ?_
      simp only [Bool.false_eq_true, false_iff]
      intro hc
      have := (hc k (by omega)).2 (by omega)
      generalize hm : ((k : Int) - 1).toNat = m at *
      have : m = k - 1 := by omega
      subst this
      omega
    · refine ⟨k + 1, ?_, ?_, Sub.toL (by simp only [go_sem] <;> first | trivial | (simp only [Option.some.injEq, AV.v.injEq, AV.own.injEq, AV.list.injEq, Value.int.injEq, Value.bool.injEq, true_and, and_true]; first | omega | (simp; done)) | (simp; done) | (simp; omega)) (by (repeat' (first | exact Hp.le_emp _ | exact Hp.le_refl _ | refine Hp.le_upd ?_ ?_)); all_goals (first | rfl | (simp only [go_sem]; first | rfl | (refine cellsE ?_ ?_ <;> (simp)) | (simp))))⟩
      · refine ⟨by omega, ⟨fun i hi => ?_⟩⟩
        by_cases e : i = k
        · subst e
          generalize hm : ((i : Int) - 1).toNat = m at *
          have : m = i - 1 := by omega
          subst this
          exact ⟨by assumption, fun _ => by omega⟩
        · exact hv.h i (by omega)
      · omega
    · refine ⟨k + 1, ?_, ?_, Sub.toL (by simp only [go_sem] <;> first | trivial | (simp only [Option.some.injEq, AV.v.injEq, AV.own.injEq, AV.list.injEq, Value.int.injEq, Value.bool.injEq, true_and, and_true]; first | omega | (simp; done)) | (simp; done) | (simp; omega)) (by (repeat' (first | exact Hp.le_emp _ | exact Hp.le_refl _ | refine Hp.le_upd ?_ ?_)); all_goals (first | rfl | (simp only [go_sem]; first | rfl | (refine cellsE ?_ ?_ <;> (simp)) | (simp))))⟩
      · refine ⟨by omega, ⟨fun i hi => ?_⟩⟩
        by_cases e : i = k
        · subst e; exact ⟨by assumption, fun _ => by omega⟩
        · exact hv.h i (by omega)
      · omega
    · refine end_retB rfl rfl ?_
      simp only [Bool.false_eq_true, false_iff]
      exact fun hc => absurd (hc k (by omega)).1 (by assumption)
    · refine end_retB rfl rfl ?_
      simp only [true_iff]
      exact fun i hi => hv.h i (by omega)
/-- What is looked at when i blocks and k points of the next one have been. -/
def seenP (bs : List (List Int)) (i k : Nat) : List Int := (bs.take i).flatten ++ (bs.getD i []).take k
theorem seenP_zero (bs : List (List Int)) (i : Nat) : seenP bs i 0 = (bs.take i).flatten := by unfold seenP; rw [List.take_zero, List.append_nil]
theorem seenP_succ {bs : List (List Int)} {i k : Nat} (hk : k < (bs.getD i []).length) : seenP bs i (k + 1) = seenP bs i k ++ [(bs.getD i []).getD k 0] := by
  unfold seenP
  rw [List.take_succ_eq_append_getElem hk, List.append_assoc, show (bs.getD i []).getD k 0 = (bs.getD i [])[k] from (by rw [List.getD_eq_getElem?_getD, List.getElem?_eq_getElem hk]; rfl)]
theorem seenP_next {bs : List (List Int)} {i : Nat} (hi : i < bs.length) : seenP bs i (bs.getD i []).length = (bs.take (i + 1)).flatten := by
  unfold seenP
  rw [List.take_length, List.take_succ_eq_append_getElem hi, List.flatten_append, show bs.getD i [] = bs[i] by simp [hi]]
  simp
theorem seenP_pre {bs : List (List Int)} {i k : Nat} (hi : i < bs.length) (hk : k < (bs.getD i []).length) : ∃ R, bs.flatten = seenP bs i k ++ (bs.getD i []).getD k 0 :: R := by
  have e1 : bs = bs.take i ++ bs.getD i [] :: bs.drop (i + 1) := by
    rw [show bs.getD i [] = bs[i] by simp [hi], List.getElem_cons_drop, List.take_append_drop]
  have e2 : bs.getD i [] = (bs.getD i []).take k ++ (bs.getD i []).getD k 0 :: (bs.getD i []).drop (k + 1) := by
    rw [show (bs.getD i []).getD k 0 = (bs.getD i [])[k] from (by rw [List.getD_eq_getElem?_getD, List.getElem?_eq_getElem hk]; rfl), List.getElem_cons_drop, List.take_append_drop]
  refine ⟨(bs.getD i []).drop (k + 1) ++ (bs.drop (i + 1)).flatten, ?_⟩
  obtain ⟨b, eb⟩ : ∃ b, b = bs.getD i [] := ⟨_, rfl⟩
  unfold seenP
  rw [← eb] at e1 e2 ⊢
  obtain ⟨v, ev⟩ : ∃ v, v = b.getD k 0 := ⟨_, rfl⟩
  rw [← ev] at e2 ⊢
  calc bs.flatten = (bs.take i ++ b :: bs.drop (i + 1)).flatten := by rw [← e1]
    _ = (bs.take i).flatten ++ (b ++ (bs.drop (i + 1)).flatten) := by rw [List.flatten_append, List.flatten_cons]
    _ = (bs.take i).flatten ++ ((b.take k ++ v :: b.drop (k + 1)) ++ (bs.drop (i + 1)).flatten) := by rw [← e2]
    _ = _ := by simp only [List.append_assoc, List.cons_append]
/-- A block is what it should be. -/
def blkI (n : Int) (bs : List (List Int)) (i : Nat) : Prop := bs.getD i [] ≠ [] ∧ ptI n (bs.getD i []) ∧ (0 < i → (bs.getD (i - 1) []).getD 0 0 < (bs.getD i []).getD 0 0)
theorem blkI_rng {n : Int} {bs : List (List Int)} {i : Nat} (h : blkI n bs i) {v : Int} (hv : v ∈ bs.getD i []) : 0 ≤ v ∧ v < n := (Go.Pm.ptI_iff.1 h.2.1).2 v hv
theorem seenP_rng {n : Int} {bs : List (List Int)} {i k : Nat} (hi : i ≤ bs.length) (h : ∀ j, j < i → blkI n bs j) (hb : blkI n bs i ∨ k = 0) {v : Int} (hv : v ∈ seenP bs i k) : 0 ≤ v ∧ v < n := by
  unfold seenP at hv
  rcases List.mem_append.1 hv with hv | hv
  · obtain ⟨b, hb, hm⟩ := List.mem_flatten.1 hv
    obtain ⟨j, hj, rfl⟩ := List.getElem_of_mem hb
    rw [List.length_take] at hj
    rw [List.getElem_take] at hm
    exact blkI_rng (h j (by omega)) (by rw [show bs.getD j [] = bs[j] by simp [show j < bs.length by omega]]; exact hm)
  · rcases hb with hb | rfl
    · exact blkI_rng hb (List.mem_of_mem_take hv)
    · simp at hv
theorem seenP_len {n : Int} {bs : List (List Int)} {i k : Nat} (hn : 0 ≤ n) (hi : i ≤ bs.length) (h : ∀ j, j < i → blkI n bs j) (hb : blkI n bs i ∨ k = 0) (hnd : (seenP bs i k).Nodup) : ((seenP bs i k).length : Int) ≤ n := by
  have := Go.Plain.nodup_le ((List.range n.toNat).map fun y : Nat => (y : Int)) (seenP bs i k) hnd fun v hv => by
    have := seenP_rng hi h hb hv
    exact List.mem_map.2 ⟨v.toNat, List.mem_range.2 (by omega), by omega⟩
  rw [List.length_map, List.length_range] at this
  omega
theorem specIsPartition_ok (n : Nat) (bs : List (List Int)) (hn : 1 ≤ n ∧ n ≤ 20) (hl : bs.length ≤ 1000000) (hb : ∀ j, (bs.getD j []).length ≤ 1000000) : AC Try.prog 88 [.v (.int .i64 ((n : Nat))), intss bs] Hp.emp (fun _ => false) (retV (.v (.bool (decide (partI (n : Int) bs))))) := by
  have hb := Hold.mk hb
  refine ac_of_awp (N := ⟨_, fun _ => false, fun _ _ => rfl⟩) Try.func88 rfl (by kernel_rfl) Try.ntmps88 (by simp) ?_
  simp only [argsFr, List.zipIdx_cons, List.zipIdx_nil, go_sem]
  repeat' (first | refine awp_seqK fun K hK => ?_ | (refine awp_regionK 2362345170138684262643 rfl ?_; simp only [List.map_cons, List.map_nil]; simp (maxSteps := 1000000) (dsimp := false) (implicitDefEqProofs := false) (disch := omega) only [wrap64, go_sem]) | (refine awp_regionQK 2362345170138684262643 (by kernel_rfl) (by kernel_rfl) (by kernel_rfl) ?_; simp only [List.map_cons, List.map_nil]; simp (maxSteps := 1000000) (dsimp := false) (implicitDefEqProofs := false) (disch := omega) only [wrap64, go_sem]) | refine awp_block ?_ | (refine awp_skip ?_; simp only [go_sem]) | (refine awp_exit ?_; simp only [go_sem]) | (refine awp_ret ?_; try simp only [go_sem]) | (refine awp_condP rfl ?_; try simp only [go_sem]) | (refine BrP.mk (fun h => ?_) (fun h => ?_) <;> try simp (dsimp := false) (disch := omega) only [wrap64]) | (refine Br.mk (fun h => ?_) (fun h => ?_) <;> try simp (dsimp := false) (disch := omega) only [wrap64]) | refine Ob.mk (by first | omega | (intro _ _; rfl) | trivial | (intros; trivial) | assumption | (intro i hi; have h0 : i = 0 := (by omega); subst h0; first | rfl | trivial) | (intro i hi; have h0 : i = 0 ∨ i = 1 := (by omega); rcases h0 with rfl | rfl <;> rfl) | (intro i hi; have h0 : i = 0 ∨ i = 1 ∨ i = 2 := (by omega); rcases h0 with rfl | rfl | rfl <;> rfl)) ?_ | apply_assumption -exfalso -symm)
  all_goals (first | (show endQ _ _ _ _ _ _ _; (repeat (rename (∀ (A : Fr) (H : Hp), AWP _ _ _ _ A H → _) => hK; clear hK)); (repeat (rename (Fr → Hp → Prop) => K; clear K))) | (show Exists _; (repeat (rename (∀ (A : Fr) (H : Hp), AWP _ _ _ _ A H → _) => hK; clear hK)); (repeat (rename (Fr → Hp → Prop) => K; clear K))) | skip)
  · refine end_retB rfl rfl ?_
    simp only [Bool.false_eq_true, false_iff]
    intro h
    have := (Go.Pm.partI_iff.1 h).len
    omega
  refine awp_loop (ι := Nat) (fun i => [(6, .v (.int .i64 ((i : Nat)))), (5, .own 12 0 1 (seenP bs i 0).length), (0, .v (.int .i64 ((n : Nat)))), (1, .list false 1 (bs).length (cM ints [] (bs)))]) (fun i => Hp.emp.upd 12 (.cells (seenP bs i 0).length (cM iv 0 (seenP bs i 0)))) (fun i => i ≤ bs.length ∧ Hold ((∀ j, j < i → blkI n bs j) ∧ (seenP bs i 0).Nodup)) (fun i => bs.length - i) 0 ⟨Nat.zero_le _, ⟨⟨fun j h => absurd h (Nat.not_lt_zero _), by simp [seenP]⟩⟩⟩ (Sub.toL (by simp only [go_sem] <;> first | trivial | (simp only [Option.some.injEq, AV.v.injEq, AV.own.injEq, AV.list.injEq, Value.int.injEq, Value.bool.injEq, true_and, and_true]; first | omega | (simp [seenP]; done)) | (simp [seenP]; done) | (simp [seenP]; omega)) (by (repeat' (first | exact Hp.le_emp _ | exact Hp.le_refl _ | refine Hp.le_upd ?_ ?_)); all_goals (first | rfl | (simp only [go_sem]; first | rfl | (refine cellsE ?_ ?_ <;> (simp [seenP])) | (simp [seenP]))))) ?_
  rintro i ⟨hi, hv⟩
  have hsl := seenP_len (by omega) hi hv.h.1 (.inr rfl) hv.h.2
  have hbi := hb.h i
  have hpv : 0 < i → 0 < (bs.getD ((i : Int) - 1).toNat []).length := fun h0 => by
    rw [show ((i : Int) - 1).toNat = i - 1 by omega]
    exact List.length_pos_iff.2 (hv.h.1 (i - 1) (by omega)).1
  repeat' (first | refine awp_seqK fun K hK => ?_ | (refine awp_regionK 2362345170138684262643 rfl ?_; simp only [List.map_cons, List.map_nil]; simp (maxSteps := 1000000) (dsimp := false) (implicitDefEqProofs := false) (disch := omega) only [wrap64, go_sem, tn0]) | (refine awp_regionQK 2362345170138684262643 (by kernel_rfl) (by kernel_rfl) (by kernel_rfl) ?_; simp only [List.map_cons, List.map_nil]; simp (maxSteps := 1000000) (dsimp := false) (implicitDefEqProofs := false) (disch := omega) only [wrap64, go_sem, tn0]) | refine awp_block ?_ | (refine awp_skip ?_; simp only [go_sem, tn0]) | (refine awp_exit ?_; simp only [go_sem, tn0]) | (refine awp_ret ?_; try simp only [go_sem, tn0]) | (refine awp_condP rfl ?_; try simp only [go_sem, tn0]) | (refine BrP.mk (fun h => ?_) (fun h => ?_) <;> try simp (dsimp := false) (disch := omega) only [wrap64]) | (refine Br.mk (fun h => ?_) (fun h => ?_) <;> try simp (dsimp := false) (disch := omega) only [wrap64]) | refine Ob.mk (by first | omega | (intro _ _; rfl) | trivial | (intros; trivial) | assumption | (intro i hi; have h0 : i = 0 := (by omega); subst h0; first | rfl | trivial) | (intro i hi; have h0 : i = 0 ∨ i = 1 := (by omega); rcases h0 with rfl | rfl <;> rfl) | (intro i hi; have h0 : i = 0 ∨ i = 1 ∨ i = 2 := (by omega); rcases h0 with rfl | rfl | rfl <;> rfl)) ?_ | ((first | ((first | refine atF (f := 148) ?_ | refine atQ (f := 148) ?_); (first | (refine cV (hac := specIsPointSet_ok (n : Int) (bs.getD i []) (by omega) (by omega)) (hK := ?_)) | (refine cQV (hac := specIsPointSet_ok (n : Int) (bs.getD i []) (by omega) (by omega)) (hK := ?_))))); simp (maxSteps := 1000000) (dsimp := false) (implicitDefEqProofs := false) (disch := omega) only [wrap64, go_sem, tn0]) | apply_assumption -exfalso -symm)
  all_goals (first | (show endQ _ _ _ _ _ _ _; (repeat (rename (∀ (A : Fr) (H : Hp), AWP _ _ _ _ A H → _) => hK; clear hK)); (repeat (rename (Fr → Hp → Prop) => K; clear K))) | (show Exists _; (repeat (rename (∀ (A : Fr) (H : Hp), AWP _ _ _ _ A H → _) => hK; clear hK)); (repeat (rename (Fr → Hp → Prop) => K; clear K))) | skip)
  · refine end_retB rfl rfl ?_
    simp only [Bool.false_eq_true, false_iff]
    intro hc
    exact (hc.1 i (by omega)).1 (List.length_eq_zero_iff.1 (by omega))
  · refine end_retB rfl rfl ?_
    simp only [Bool.false_eq_true, false_iff]
    intro hc
    have q := (hc.1 i (by omega)).2.2 (by omega)
    rw [show i - 1 = ((i : Int) - 1).toNat by omega] at q
    omega
  iterate 2
    · have hbk : blkI n bs i := ⟨fun e => by have : (bs.getD i []).length = 0 := (by rw [e]; rfl)
                                             omega, by assumption, fun h0 => by
        rw [show i - 1 = ((i : Int) - 1).toNat by omega]; omega⟩
      have hbk := Hold.mk hbk
      refine awp_loop (ι := Nat) (fun k => [(7, .v (.int .i64 ((k : Nat)))), (6, .v (.int .i64 ((i : Nat)))), (5, .own 12 0 1 (seenP bs i k).length), (0, .v (.int .i64 ((n : Nat)))), (1, .list false 1 (bs).length (cM ints [] (bs)))]) (fun k => Hp.emp.upd 12 (.cells (seenP bs i k).length (cM iv 0 (seenP bs i k)))) (fun k => k ≤ (bs.getD i []).length ∧ Hold ((seenP bs i k).Nodup)) (fun k => (bs.getD i []).length - k) 0 ⟨Nat.zero_le _, ⟨hv.h.2⟩⟩ (Sub.toL (by simp only [go_sem] <;> first | trivial | (simp only [Option.some.injEq, AV.v.injEq, AV.own.injEq, AV.list.injEq, Value.int.injEq, Value.bool.injEq, true_and, and_true]; first | omega | (simp; done)) | (simp; done) | (simp; omega)) (Hp.le_refl _)) ?_
      rintro k ⟨hk, hnd⟩
      have hsk := seenP_len (n := n) (by omega) hi hv.h.1 (.inl hbk.h) hnd.h
      repeat' (first | refine awp_seqK fun K hK => ?_ | (refine awp_regionK 2362345170138684262643 rfl ?_; simp only [List.map_cons, List.map_nil]; simp (maxSteps := 1000000) (dsimp := false) (implicitDefEqProofs := false) (disch := omega) only [wrap64, go_sem]) | (refine awp_regionQK 2362345170138684262643 (by kernel_rfl) (by kernel_rfl) (by kernel_rfl) ?_; simp only [List.map_cons, List.map_nil]; simp (maxSteps := 1000000) (dsimp := false) (implicitDefEqProofs := false) (disch := omega) only [wrap64, go_sem]) | refine awp_block ?_ | (refine awp_skip ?_; simp only [go_sem]) | (refine awp_exit ?_; simp only [go_sem]) | (refine awp_ret ?_; try simp only [go_sem]) | (refine awp_condP rfl ?_; try simp only [go_sem]) | (refine BrP.mk (fun h => ?_) (fun h => ?_) <;> try simp (dsimp := false) (disch := omega) only [wrap64]) | (refine Br.mk (fun h => ?_) (fun h => ?_) <;> try simp (dsimp := false) (disch := omega) only [wrap64]) | refine Ob.mk (by first | omega | (intro _ _; rfl) | trivial | (intros; trivial) | assumption | (intro i hi; have h0 : i = 0 := (by omega); subst h0; first | rfl | trivial) | (intro i hi; have h0 : i = 0 ∨ i = 1 := (by omega); rcases h0 with rfl | rfl <;> rfl) | (intro i hi; have h0 : i = 0 ∨ i = 1 ∨ i = 2 := (by omega); rcases h0 with rfl | rfl | rfl <;> rfl)) ?_ | ((first | ((first | refine atF (f := 126) ?_ | refine atQ (f := 126) ?_); (first | (refine cV (hac := containsInt_ok (seenP bs i k) ((bs.getD i []).getD k 0) (by omega)) (hK := ?_)) | (refine cQV (hac := containsInt_ok (seenP bs i k) ((bs.getD i []).getD k 0) (by omega)) (hK := ?_))))); simp (maxSteps := 1000000) (dsimp := false) (implicitDefEqProofs := false) (disch := omega) only [wrap64, go_sem]) | apply_assumption -exfalso -symm)
      all_goals (first | (show endQ _ _ _ _ _ _ _; (repeat (rename (∀ (A : Fr) (H : Hp), AWP _ _ _ _ A H → _) => hK; clear hK)); (repeat (rename (Fr → Hp → Prop) => K; clear K))) | (show Exists _; (repeat (rename (∀ (A : Fr) (H : Hp), AWP _ _ _ _ A H → _) => hK; clear hK)); (repeat (rename (Fr → Hp → Prop) => K; clear K))) | skip)
      · refine end_retB rfl rfl ?_
        simp only [Bool.false_eq_true, false_iff]
        intro hc
        obtain ⟨R, eR⟩ := seenP_pre (bs := bs) (i := i) (k := k) (by omega) (by omega)
        have hq := hc.2.1
        rw [eR, List.nodup_append] at hq
        exact hq.2.2 _ (by assumption) _ (List.mem_cons_self ..) rfl
      · have e1 := seenP_succ (bs := bs) (i := i) (k := k) (by omega)
        have e2 : (seenP bs i (k + 1)).length = (seenP bs i k).length + 1 := by rw [e1, List.length_append, List.length_singleton]
        refine ⟨k + 1, ⟨by omega, ⟨?_⟩⟩, by omega, ?_⟩
        · rw [e1, List.nodup_append]
          exact ⟨hnd.h, by simp, fun a ha b hb e => by rw [List.mem_singleton] at hb; subst hb; subst e; contradiction⟩
        · rw [e2, e1]
          exact Sub.toL (by simp only [go_sem] <;> first | trivial | (simp only [Option.some.injEq, AV.v.injEq, AV.own.injEq, AV.list.injEq, Value.int.injEq, Value.bool.injEq, true_and, and_true]; first | omega | (simp; done)) | (simp; done) | (simp; omega)) (by (repeat' (first | exact Hp.le_emp _ | exact Hp.le_refl _ | refine Hp.le_upd ?_ ?_)); all_goals (first | rfl | (simp only [go_sem]; first | rfl | (refine cellsE ?_ ?_ <;> (simp)) | (simp))))
      · have ek : k = (bs.getD i []).length := by omega
        have e1 : seenP bs i k = seenP bs (i + 1) 0 := by rw [ek, seenP_next (by omega), seenP_zero]
        rw [e1] at hnd ⊢
        refine ⟨i + 1, ⟨by omega, ⟨fun j hj => ?_, hnd.h⟩⟩, by omega, ?_⟩
        · by_cases e : j = i
          · subst e; exact hbk.h
          · exact hv.h.1 j (by omega)
        · exact Sub.toL (by simp only [go_sem] <;> first | trivial | (simp only [Option.some.injEq, AV.v.injEq, AV.own.injEq, AV.list.injEq, Value.int.injEq, Value.bool.injEq, true_and, and_true]; first | omega | (simp; done)) | (simp; done) | (simp; omega)) (Hp.le_refl _)
  · refine end_retB rfl rfl ?_
    simp only [Bool.false_eq_true, false_iff]
    exact fun hc => absurd (hc.1 i (by omega)).2.1 (by assumption)
  · have e : i = bs.length := by omega
    subst e
    have e2 : seenP bs bs.length 0 = bs.flatten := by rw [seenP_zero, List.take_length]
    have hn2 := hv.h.2
    rw [e2] at hn2 ⊢
    refine end_retB rfl rfl ?_
    rw [decide_eq_true_eq]
    exact ⟨fun h => ⟨hv.h.1, hn2, h⟩, fun h => h.2.2⟩
theorem part_blk {n : Nat} {bs : List (List Int)} (h : IsPart n bs) (i : Nat) : (bs.getD i []).length ≤ n := by
  by_cases hi : i < bs.length
  · have := Go.Pm.ptI_len ((Go.Pm.partI_iff.2 h).1 i hi).2.1 (by omega)
    omega
  · rw [List.getD_eq_getElem?_getD, List.getElem?_eq_none (by omega)]; exact Nat.zero_le _
/-- The index of each point's block. -/
theorem specBlockIndexes_ok (n : Nat) (bs : List (List Int)) (hn : 1 ≤ n ∧ n ≤ 20) (hp : IsPart n bs) (d : Nat) : AC Try.prog 89 [.v (.int .i64 ((n : Nat))), intss bs] Hp.emp (fun _ => false) (retI d (ixP n bs)) := by
  have hbl := hp.len
  have hp := Hold.mk hp
  refine ac_of_awp (N := ⟨_, fun _ => false, fun _ _ => rfl⟩) Try.func89 rfl (by kernel_rfl) Try.ntmps89 (by simp) ?_
  simp only [argsFr, List.zipIdx_cons, List.zipIdx_nil, go_sem]
  repeat' (first | refine awp_seqK fun K hK => ?_ | (refine awp_regionK 4202739 rfl ?_; simp only [List.map_cons, List.map_nil]; simp (maxSteps := 1000000) (dsimp := false) (implicitDefEqProofs := false) (disch := omega) only [wrap64, go_sem]) | (refine awp_regionQK 4202739 (by kernel_rfl) (by kernel_rfl) (by kernel_rfl) ?_; simp only [List.map_cons, List.map_nil]; simp (maxSteps := 1000000) (dsimp := false) (implicitDefEqProofs := false) (disch := omega) only [wrap64, go_sem]) | refine awp_block ?_ | (refine awp_skip ?_; simp only [go_sem]) | (refine awp_exit ?_; simp only [go_sem]) | (refine awp_ret ?_; try simp only [go_sem]) | (refine awp_condP rfl ?_; try simp only [go_sem]) | (refine BrP.mk (fun h => ?_) (fun h => ?_) <;> try simp (dsimp := false) (disch := omega) only [wrap64]) | (refine Br.mk (fun h => ?_) (fun h => ?_) <;> try simp (dsimp := false) (disch := omega) only [wrap64]) | refine Ob.mk (by first | omega | (intro _ _; rfl) | trivial | (intros; trivial) | assumption | (intro i hi; have h0 : i = 0 := (by omega); subst h0; first | rfl | trivial) | (intro i hi; have h0 : i = 0 ∨ i = 1 := (by omega); rcases h0 with rfl | rfl <;> rfl) | (intro i hi; have h0 : i = 0 ∨ i = 1 ∨ i = 2 := (by omega); rcases h0 with rfl | rfl | rfl <;> rfl)) ?_ | apply_assumption -exfalso -symm)
  all_goals (first | (show endQ _ _ _ _ _ _ _; (repeat (rename (∀ (A : Fr) (H : Hp), AWP _ _ _ _ A H → _) => hK; clear hK)); (repeat (rename (Fr → Hp → Prop) => K; clear K))) | (show Exists _; (repeat (rename (∀ (A : Fr) (H : Hp), AWP _ _ _ _ A H → _) => hK; clear hK)); (repeat (rename (Fr → Hp → Prop) => K; clear K))) | skip)
  refine awp_loop (ι := Nat × List Int) (fun z => [(6, .v (.int .i64 ((z.1 : Nat)))), (5, .own 9 0 1 n), (0, .v (.int .i64 ((n : Nat)))), (1, .list false 1 (bs).length (cM ints [] (bs)))]) (fun z => Hp.emp.upd 9 (.cells n (cM iv 0 z.2))) (fun z => z.1 ≤ bs.length ∧ z.2.length = n ∧ Hold (∀ x : Nat, (x : Int) ∈ seenP bs z.1 0 → z.2.getD x 0 = (ixP n bs).getD x 0)) (fun z => bs.length - z.1) (0, List.replicate n 0) ⟨Nat.zero_le _, by simp, ⟨fun x hx => by simp [seenP] at hx⟩⟩ ?_ ?_
  · exact Sub.toFF (fun _ => False) (Fr.fit_cons rfl (.refl _) (Fr.fit_cons rfl (.refl _) (Fr.fit_cons rfl (.refl _) (Fr.fit_cons rfl (.refl _) (Fr.fit_nil _))))) (leF_upd rfl (bfE rfl (fun i hi => by simp [zF, cM, Nat.mod_one, List.getD_eq_getElem?_getD, List.getElem?_replicate])) leF_emp id)
  rintro ⟨i, out⟩ ⟨hi, ho, hv⟩
  dsimp only at hi ho hv ⊢
  have hbi := part_blk hp.h i
  repeat' (first | refine awp_seqK fun K hK => ?_ | (refine awp_regionK 4202739 rfl ?_; simp only [List.map_cons, List.map_nil]; simp (maxSteps := 1000000) (dsimp := false) (implicitDefEqProofs := false) (disch := omega) only [wrap64, go_sem]) | (refine awp_regionQK 4202739 (by kernel_rfl) (by kernel_rfl) (by kernel_rfl) ?_; simp only [List.map_cons, List.map_nil]; simp (maxSteps := 1000000) (dsimp := false) (implicitDefEqProofs := false) (disch := omega) only [wrap64, go_sem]) | refine awp_block ?_ | (refine awp_skip ?_; simp only [go_sem]) | (refine awp_exit ?_; simp only [go_sem]) | (refine awp_ret ?_; try simp only [go_sem]) | (refine awp_condP rfl ?_; try simp only [go_sem]) | (refine BrP.mk (fun h => ?_) (fun h => ?_) <;> try simp (dsimp := false) (disch := omega) only [wrap64]) | (refine Br.mk (fun h => ?_) (fun h => ?_) <;> try simp (dsimp := false) (disch := omega) only [wrap64]) | refine Ob.mk (by first | omega | (intro _ _; rfl) | trivial | (intros; trivial) | assumption | (intro i hi; have h0 : i = 0 := (by omega); subst h0; first | rfl | trivial) | (intro i hi; have h0 : i = 0 ∨ i = 1 := (by omega); rcases h0 with rfl | rfl <;> rfl) | (intro i hi; have h0 : i = 0 ∨ i = 1 ∨ i = 2 := (by omega); rcases h0 with rfl | rfl | rfl <;> rfl)) ?_ | apply_assumption -exfalso -symm)
  all_goals (first | (show endQ _ _ _ _ _ _ _; (repeat (rename (∀ (A : Fr) (H : Hp), AWP _ _ _ _ A H → _) => hK; clear hK)); (repeat (rename (Fr → Hp → Prop) => K; clear K))) | (show Exists _; (repeat (rename (∀ (A : Fr) (H : Hp), AWP _ _ _ _ A H → _) => hK; clear hK)); (repeat (rename (Fr → Hp → Prop) => K; clear K))) | skip)
  · refine awp_loop (ι := Nat × List Int) (fun z => [(7, .v (.int .i64 ((z.1 : Nat)))), (6, .v (.int .i64 ((i : Nat)))), (5, .own 9 0 1 n), (0, .v (.int .i64 ((n : Nat)))), (1, .list false 1 (bs).length (cM ints [] (bs)))]) (fun z => Hp.emp.upd 9 (.cells n (cM iv 0 z.2))) (fun z => z.1 ≤ (bs.getD i []).length ∧ z.2.length = n ∧ Hold (∀ x : Nat, (x : Int) ∈ seenP bs i z.1 → z.2.getD x 0 = (ixP n bs).getD x 0)) (fun z => (bs.getD i []).length - z.1) (0, out) ⟨Nat.zero_le _, ho, hv⟩ (Sub.toL (by simp only [go_sem] <;> first | trivial | (simp only [Option.some.injEq, AV.v.injEq, AV.own.injEq, AV.list.injEq, Value.int.injEq, Value.bool.injEq, true_and, and_true]; first | omega | (simp; done)) | (simp; done) | (simp; omega)) (Hp.le_refl _)) ?_
    clear hv ho out
    rintro ⟨k, out⟩ ⟨hk, ho, hv⟩
    dsimp only at hk ho hv ⊢
    have hent : k < (bs.getD i []).length → 0 ≤ (bs.getD i []).getD k 0 ∧ (bs.getD i []).getD k 0 < n := fun h => by
      obtain ⟨x, e, hx, _⟩ := hp.h.entry (i := i) (k := k) (by omega) h
      omega
    repeat' (first | refine awp_seqK fun K hK => ?_ | (refine awp_regionK 4202739 rfl ?_; simp only [List.map_cons, List.map_nil]; simp (maxSteps := 1000000) (dsimp := false) (implicitDefEqProofs := false) (disch := omega) only [wrap64, go_sem]) | (refine awp_regionQK 4202739 (by kernel_rfl) (by kernel_rfl) (by kernel_rfl) ?_; simp only [List.map_cons, List.map_nil]; simp (maxSteps := 1000000) (dsimp := false) (implicitDefEqProofs := false) (disch := omega) only [wrap64, go_sem]) | refine awp_block ?_ | (refine awp_skip ?_; simp only [go_sem]) | (refine awp_exit ?_; simp only [go_sem]) | (refine awp_ret ?_; try simp only [go_sem]) | (refine awp_condP rfl ?_; try simp only [go_sem]) | (refine BrP.mk (fun h => ?_) (fun h => ?_) <;> try simp (dsimp := false) (disch := omega) only [wrap64]) | (refine Br.mk (fun h => ?_) (fun h => ?_) <;> try simp (dsimp := false) (disch := omega) only [wrap64]) | refine Ob.mk (by first | omega | (intro _ _; rfl) | trivial | (intros; trivial) | assumption | (intro i hi; have h0 : i = 0 := (by omega); subst h0; first | rfl | trivial) | (intro i hi; have h0 : i = 0 ∨ i = 1 := (by omega); rcases h0 with rfl | rfl <;> rfl) | (intro i hi; have h0 : i = 0 ∨ i = 1 ∨ i = 2 := (by omega); rcases h0 with rfl | rfl | rfl <;> rfl)) ?_ | apply_assumption -exfalso -symm)
    all_goals (first | (show endQ _ _ _ _ _ _ _; (repeat (rename (∀ (A : Fr) (H : Hp), AWP _ _ _ _ A H → _) => hK; clear hK)); (repeat (rename (Fr → Hp → Prop) => K; clear K))) | (show Exists _; (repeat (rename (∀ (A : Fr) (H : Hp), AWP _ _ _ _ A H → _) => hK; clear hK)); (repeat (rename (Fr → Hp → Prop) => K; clear K))) | skip)
    · obtain ⟨x, e, hx, hm⟩ := hp.h.entry (i := i) (k := k) (by omega) (by omega)
      refine ⟨(k + 1, out.set x i), ⟨by dsimp only; omega, by dsimp only; rw [List.length_set]; exact ho, ⟨fun y hy => ?_⟩⟩, by dsimp only; omega, ?_⟩
      · dsimp only at hy ⊢
        rw [getD_set (by omega)]
        rw [seenP_succ (by omega), List.mem_append, List.mem_singleton, e] at hy
        split
        · rename_i e2; subst e2
          rw [Go.Pm.ixP_mem hp.h (i := i) (by omega) hm]
        · rename_i e2
          rcases hy with hy | hy
          · exact hv.h y hy
          · exact absurd (by omega) e2
      · dsimp only
        rw [e, Int.toNat_natCast]
        exact Sub.toL (by simp only [go_sem] <;> first | trivial | (simp only [Option.some.injEq, AV.v.injEq, AV.own.injEq, AV.list.injEq, Value.int.injEq, Value.bool.injEq, true_and, and_true]; first | omega | (simp; done)) | (simp; done) | (simp; omega)) (by (repeat' (first | exact Hp.le_emp _ | exact Hp.le_refl _ | refine Hp.le_upd ?_ ?_)); all_goals (first | rfl | (simp only [go_sem]; first | rfl | (refine cellsE ?_ ?_ <;> (simp)) | (simp))))
    · have ek : k = (bs.getD i []).length := by omega
      subst ek
      refine ⟨(i + 1, out), ⟨by dsimp only; omega, ho, ⟨fun y hy => hv.h y ?_⟩⟩, by dsimp only; omega, Sub.toL (by simp only [go_sem] <;> first | trivial | (simp only [Option.some.injEq, AV.v.injEq, AV.own.injEq, AV.list.injEq, Value.int.injEq, Value.bool.injEq, true_and, and_true]; first | omega | (simp; done)) | (simp; done) | (simp; omega)) (Hp.le_refl _)⟩
      dsimp only at hy
      rwa [seenP_zero, ← seenP_next (by omega)] at hy
  · have e : i = bs.length := by omega
    subst e
    refine end_retI' rfl rfl rfl ?_ ho.symm rfl
    refine eq_of_getD (by rw [ho, Go.Pm.ixP_len]) fun x hx => ?_
    obtain ⟨j, hj, hm, _⟩ := Go.Pm.ixP_spec hp.h (x := x) (by omega)
    refine hv.h x ?_
    rw [seenP_zero, List.take_length]
    exact List.mem_flatten.2 ⟨_, Go.Pm.getD_mem (b := []) hj, hm⟩
noncomputable instance (n : Nat) (g : List Int) (bs : List (List Int)) : Decidable (Rsp n g bs) := Classical.propDecidable _
theorem specRespects_ok (n : Nat) (g : List Int) (bs : List (List Int)) (hn : 1 ≤ n ∧ n ≤ 20) (hp : IsPart n bs) (hg : Pm n g) : AC Try.prog 90 [ints g, intss bs, ints (ixP n bs)] Hp.emp (fun _ => false) (retV (.v (.bool (decide (Rsp n g bs))))) := by
  have hbl := hp.len
  have hgl := hg.1
  have hil := Go.Pm.ixP_len n bs
  have hp := Hold.mk hp
  have hg := Hold.mk hg
  refine ac_of_awp (N := ⟨_, fun _ => false, fun _ _ => rfl⟩) Try.func90 rfl (by kernel_rfl) Try.ntmps90 (by simp) ?_
  simp only [argsFr, List.zipIdx_cons, List.zipIdx_nil, go_sem]
  repeat' (first | refine awp_seqK fun K hK => ?_ | (refine awp_regionK 562949955523015 rfl ?_; simp only [List.map_cons, List.map_nil]; simp (maxSteps := 1000000) (dsimp := false) (implicitDefEqProofs := false) (disch := omega) only [wrap64, go_sem]) | (refine awp_regionQK 562949955523015 (by kernel_rfl) (by kernel_rfl) (by kernel_rfl) ?_; simp only [List.map_cons, List.map_nil]; simp (maxSteps := 1000000) (dsimp := false) (implicitDefEqProofs := false) (disch := omega) only [wrap64, go_sem]) | refine awp_block ?_ | (refine awp_skip ?_; simp only [go_sem]) | (refine awp_exit ?_; simp only [go_sem]) | (refine awp_ret ?_; try simp only [go_sem]) | (refine awp_condP rfl ?_; try simp only [go_sem]) | (refine BrP.mk (fun h => ?_) (fun h => ?_) <;> try simp (dsimp := false) (disch := omega) only [wrap64]) | (refine Br.mk (fun h => ?_) (fun h => ?_) <;> try simp (dsimp := false) (disch := omega) only [wrap64]) | refine Ob.mk (by first | omega | (intro _ _; rfl) | trivial | (intros; trivial) | assumption | (intro i hi; have h0 : i = 0 := (by omega); subst h0; first | rfl | trivial) | (intro i hi; have h0 : i = 0 ∨ i = 1 := (by omega); rcases h0 with rfl | rfl <;> rfl) | (intro i hi; have h0 : i = 0 ∨ i = 1 ∨ i = 2 := (by omega); rcases h0 with rfl | rfl | rfl <;> rfl)) ?_ | apply_assumption -exfalso -symm)
  all_goals (first | (show endQ _ _ _ _ _ _ _; (repeat (rename (∀ (A : Fr) (H : Hp), AWP _ _ _ _ A H → _) => hK; clear hK)); (repeat (rename (Fr → Hp → Prop) => K; clear K))) | (show Exists _; (repeat (rename (∀ (A : Fr) (H : Hp), AWP _ _ _ _ A H → _) => hK; clear hK)); (repeat (rename (Fr → Hp → Prop) => K; clear K))) | skip)
  refine awp_loop (ι := Nat) (fun i => [(7, .v (.int .i64 ((i : Nat)))), (0, .list false 1 (g).length (cM iv 0 (g))), (1, .list false 1 (bs).length (cM ints [] (bs))), (2, .list false 1 (ixP n bs).length (cM iv 0 (ixP n bs)))]) (fun i => Hp.emp) (fun i => i ≤ bs.length ∧ Hold (∀ j, j < i → ∀ k, k < (bs.getD j []).length → (ixP n bs).getD (img g ((bs.getD j []).getD k 0).toNat) 0 = (ixP n bs).getD (img g ((bs.getD j []).getD 0 0).toNat) 0)) (fun i => bs.length - i) 0 ?_ (Sub.toL (by simp only [go_sem] <;> first | trivial | (simp only [Option.some.injEq, AV.v.injEq, AV.own.injEq, AV.list.injEq, Value.int.injEq, Value.bool.injEq, true_and, and_true]; first | omega | (simp; done)) | (simp; done) | (simp; omega)) (by (repeat' (first | exact Hp.le_emp _ | exact Hp.le_refl _ | refine Hp.le_upd ?_ ?_)); all_goals (first | rfl | (simp only [go_sem]; first | rfl | (refine cellsE ?_ ?_ <;> (simp)) | (simp))))) ?_
  · exact ⟨Nat.zero_le _, ⟨fun i h => absurd h (Nat.not_lt_zero _)⟩⟩
  rintro i ⟨hi, hv⟩
  have hbi := part_blk hp.h i
  repeat' (first | refine awp_seqK fun K hK => ?_ | (refine awp_regionK 562949955523015 rfl ?_; simp only [List.map_cons, List.map_nil]; simp (maxSteps := 1000000) (dsimp := false) (implicitDefEqProofs := false) (disch := omega) only [wrap64, go_sem]) | (refine awp_regionQK 562949955523015 (by kernel_rfl) (by kernel_rfl) (by kernel_rfl) ?_; simp only [List.map_cons, List.map_nil]; simp (maxSteps := 1000000) (dsimp := false) (implicitDefEqProofs := false) (disch := omega) only [wrap64, go_sem]) | refine awp_block ?_ | (refine awp_skip ?_; simp only [go_sem]) | (refine awp_exit ?_; simp only [go_sem]) | (refine awp_ret ?_; try simp only [go_sem]) | (refine awp_condP rfl ?_; try simp only [go_sem]) | (refine BrP.mk (fun h => ?_) (fun h => ?_) <;> try simp (dsimp := false) (disch := omega) only [wrap64]) | (refine Br.mk (fun h => ?_) (fun h => ?_) <;> try simp (dsimp := false) (disch := omega) only [wrap64]) | refine Ob.mk (by first | omega | (intro _ _; rfl) | trivial | (intros; trivial) | assumption | (intro i hi; have h0 : i = 0 := (by omega); subst h0; first | rfl | trivial) | (intro i hi; have h0 : i = 0 ∨ i = 1 := (by omega); rcases h0 with rfl | rfl <;> rfl) | (intro i hi; have h0 : i = 0 ∨ i = 1 ∨ i = 2 := (by omega); rcases h0 with rfl | rfl | rfl <;> rfl)) ?_ | apply_assumption -exfalso -symm)
  all_goals (first | (show endQ _ _ _ _ _ _ _; (repeat (rename (∀ (A : Fr) (H : Hp), AWP _ _ _ _ A H → _) => hK; clear hK)); (repeat (rename (Fr → Hp → Prop) => K; clear K))) | (show Exists _; (repeat (rename (∀ (A : Fr) (H : Hp), AWP _ _ _ _ A H → _) => hK; clear hK)); (repeat (rename (Fr → Hp → Prop) => K; clear K))) | skip)
  · refine awp_loop (ι := Nat) (fun k => [(8, .v (.int .i64 ((k : Nat)))), (7, .v (.int .i64 ((i : Nat)))), (0, .list false 1 (g).length (cM iv 0 (g))), (1, .list false 1 (bs).length (cM ints [] (bs))), (2, .list false 1 (ixP n bs).length (cM iv 0 (ixP n bs)))]) (fun k => Hp.emp) (fun k => (1 ≤ k ∧ k ≤ (bs.getD i []).length) ∧ Hold (∀ j, j < k → (ixP n bs).getD (img g ((bs.getD i []).getD j 0).toNat) 0 = (ixP n bs).getD (img g ((bs.getD i []).getD 0 0).toNat) 0)) (fun k => (bs.getD i []).length - k) 1 ?_ (Sub.toL (by simp only [go_sem] <;> first | trivial | (simp only [Option.some.injEq, AV.v.injEq, AV.own.injEq, AV.list.injEq, Value.int.injEq, Value.bool.injEq, true_and, and_true]; first | omega | (simp; done)) | (simp; done) | (simp; omega)) (by (repeat' (first | exact Hp.le_emp _ | exact Hp.le_refl _ | refine Hp.le_upd ?_ ?_)); all_goals (first | rfl | (simp only [go_sem]; first | rfl | (refine cellsE ?_ ?_ <;> (simp)) | (simp))))) ?_
    · have := hp.h.pos (i := i) (by omega)
      refine ⟨⟨Nat.le_refl _, by omega⟩, ⟨fun j hj => ?_⟩⟩
      have : j = 0 := by omega
      subst this; rfl
    rintro k ⟨hk, hw⟩
    have hent : k < (bs.getD i []).length → 0 ≤ (bs.getD i []).getD k 0 ∧ (bs.getD i []).getD k 0 < n ∧ 0 ≤ g.getD ((bs.getD i []).getD k 0).toNat 0 ∧ g.getD ((bs.getD i []).getD k 0).toNat 0 < n := fun h => by
      obtain ⟨x, e, hx, _⟩ := hp.h.entry (i := i) (k := k) (by omega) h
      have := hg.h.2.1 x hx
      rw [e, Int.toNat_natCast]
      omega
    have hent0 : 0 ≤ (bs.getD i []).getD 0 0 ∧ (bs.getD i []).getD 0 0 < n ∧ 0 ≤ g.getD ((bs.getD i []).getD 0 0).toNat 0 ∧ g.getD ((bs.getD i []).getD 0 0).toNat 0 < n := by
      obtain ⟨x, e, hx, _⟩ := hp.h.entry (i := i) (k := 0) (by omega) (by omega)
      have := hg.h.2.1 x hx
      rw [e, Int.toNat_natCast]
      omega
    repeat' (first | refine awp_seqK fun K hK => ?_ | (refine awp_regionK 562949955523015 rfl ?_; simp only [List.map_cons, List.map_nil]; simp (maxSteps := 1000000) (dsimp := false) (implicitDefEqProofs := false) (disch := omega) only [wrap64, go_sem, tn0]) | (refine awp_regionQK 562949955523015 (by kernel_rfl) (by kernel_rfl) (by kernel_rfl) ?_; simp only [List.map_cons, List.map_nil]; simp (maxSteps := 1000000) (dsimp := false) (implicitDefEqProofs := false) (disch := omega) only [wrap64, go_sem, tn0]) | refine awp_block ?_ | (refine awp_skip ?_; simp only [go_sem, tn0]) | (refine awp_exit ?_; simp only [go_sem, tn0]) | (refine awp_ret ?_; try simp only [go_sem, tn0]) | (refine awp_condP rfl ?_; try simp only [go_sem, tn0]) | (refine BrP.mk (fun h => ?_) (fun h => ?_) <;> try simp (dsimp := false) (disch := omega) only [wrap64]) | (refine Br.mk (fun h => ?_) (fun h => ?_) <;> try simp (dsimp := false) (disch := omega) only [wrap64]) | refine Ob.mk (by first | omega | (intro _ _; rfl) | trivial | (intros; trivial) | assumption | (intro i hi; have h0 : i = 0 := (by omega); subst h0; first | rfl | trivial) | (intro i hi; have h0 : i = 0 ∨ i = 1 := (by omega); rcases h0 with rfl | rfl <;> rfl) | (intro i hi; have h0 : i = 0 ∨ i = 1 ∨ i = 2 := (by omega); rcases h0 with rfl | rfl | rfl <;> rfl)) ?_ | apply_assumption -exfalso -symm)
    all_goals (first | (show endQ _ _ _ _ _ _ _; (repeat (rename (∀ (A : Fr) (H : Hp), AWP _ _ _ _ A H → _) => hK; clear hK)); (repeat (rename (Fr → Hp → Prop) => K; clear K))) | (show Exists _; (repeat (rename (∀ (A : Fr) (H : Hp), AWP _ _ _ _ A H → _) => hK; clear hK)); (repeat (rename (Fr → Hp → Prop) => K; clear K))) | skip)
    · refine ⟨k + 1, ?_, ?_, Sub.toL (by simp only [go_sem] <;> first | trivial | (simp only [Option.some.injEq, AV.v.injEq, AV.own.injEq, AV.list.injEq, Value.int.injEq, Value.bool.injEq, true_and, and_true]; first | omega | (simp; done)) | (simp; done) | (simp; omega)) (by (repeat' (first | exact Hp.le_emp _ | exact Hp.le_refl _ | refine Hp.le_upd ?_ ?_)); all_goals (first | rfl | (simp only [go_sem]; first | rfl | (refine cellsE ?_ ?_ <;> (simp)) | (simp))))⟩
      · refine ⟨by omega, ⟨fun j hj => ?_⟩⟩
        by_cases e : j = k
        · subst e; unfold img; assumption
        · exact hw.h j (by omega)
      · omega
    · refine end_retB rfl rfl ?_
      simp only [Bool.false_eq_true, false_iff]
      intro hc
      have := (Go.Pm.rspI_iff hp.h hg.h).2 hc i (by omega) k (by omega)
      unfold img at this
      contradiction
    · refine ⟨i + 1, ?_, ?_, Sub.toL (by simp only [go_sem] <;> first | trivial | (simp only [Option.some.injEq, AV.v.injEq, AV.own.injEq, AV.list.injEq, Value.int.injEq, Value.bool.injEq, true_and, and_true]; first | omega | (simp; done)) | (simp; done) | (simp; omega)) (by (repeat' (first | exact Hp.le_emp _ | exact Hp.le_refl _ | refine Hp.le_upd ?_ ?_)); all_goals (first | rfl | (simp only [go_sem]; first | rfl | (refine cellsE ?_ ?_ <;> (simp)) | (simp))))⟩
      · refine ⟨by omega, ⟨fun j hj => ?_⟩⟩
        by_cases e : j = i
        · subst e; exact fun k' hk' => hw.h k' (by omega)
        · exact hv.h j (by omega)
      · omega
  · refine end_retB rfl rfl ?_
    simp only [true_iff]
    exact (Go.Pm.rspI_iff hp.h hg.h).1 fun j hj => hv.h j (by omega)
end Go.Proofs.Ytngpacdhpblpbaa
end
/- Block systems, the reference: merging labels, blocks by labels. -/
section
namespace Go.Proofs.Ytngpacdhpblpbaa
open Go.Av
set_option linter.unusedSimpArgs false
set_option linter.unusedVariables false
attribute [local irreducible] AWP CallG Ob Br BrP Go.Av.Sub endQ AOps OpV AC thenA blkA opsVC opVC withA withArgs opsQ opQ CallQ withA2 withArgs2
open Go.Pm (Pm ptI partI IsPart ixP Rsp rspI actP img invp mrg Lbl SL parts loR clsF clsN partK)
theorem specMergeLabels_ok (L : List Int) (a b : Int) (hl : L.length ≤ 1000000) (d : Nat) : AC Try.prog 103 [ints L, .v (.int .i64 (a)), .v (.int .i64 (b))] Hp.emp (fun _ => false) (retI d (mrg L a b)) := by
  refine ac_of_awp (N := ⟨_, fun _ => false, fun _ _ => rfl⟩) Try.func103 rfl (by kernel_rfl) Try.ntmps103 (by simp) ?_
  simp only [argsFr, List.zipIdx_cons, List.zipIdx_nil, go_sem]
  repeat' (first | refine awp_seqK fun K hK => ?_ | (refine awp_regionK 4211143 rfl ?_; simp only [List.map_cons, List.map_nil]; simp (maxSteps := 1000000) (dsimp := false) (implicitDefEqProofs := false) (disch := omega) only [wrap64, go_sem]) | (refine awp_regionQK 4211143 (by kernel_rfl) (by kernel_rfl) (by kernel_rfl) ?_; simp only [List.map_cons, List.map_nil]; simp (maxSteps := 1000000) (dsimp := false) (implicitDefEqProofs := false) (disch := omega) only [wrap64, go_sem]) | refine awp_block ?_ | (refine awp_skip ?_; simp only [go_sem]) | (refine awp_exit ?_; simp only [go_sem]) | (refine awp_ret ?_; try simp only [go_sem]) | (refine awp_condP rfl ?_; try simp only [go_sem]) | (refine BrP.mk (fun h => ?_) (fun h => ?_) <;> try simp (dsimp := false) (disch := omega) only [wrap64]) | (refine Br.mk (fun h => ?_) (fun h => ?_) <;> try simp (dsimp := false) (disch := omega) only [wrap64]) | refine Ob.mk (by first | omega | (intro _ _; rfl) | trivial | (intros; trivial) | assumption | (intro i hi; have h0 : i = 0 := (by omega); subst h0; first | rfl | trivial) | (intro i hi; have h0 : i = 0 ∨ i = 1 := (by omega); rcases h0 with rfl | rfl <;> rfl) | (intro i hi; have h0 : i = 0 ∨ i = 1 ∨ i = 2 := (by omega); rcases h0 with rfl | rfl | rfl <;> rfl)) ?_ | ((first | ((first | refine atF (f := 152) ?_ | refine atQ (f := 152) ?_); (first | (refine cI (hac := specCopyInts_ok L (by omega) 10) (hK := ?_)) | (refine cQI (hac := specCopyInts_ok L (by omega) 10) (hK := ?_))))); simp (maxSteps := 1000000) (dsimp := false) (implicitDefEqProofs := false) (disch := omega) only [wrap64, go_sem]) | apply_assumption -exfalso -symm)
  all_goals (first | (show endQ _ _ _ _ _ _ _; (repeat (rename (∀ (A : Fr) (H : Hp), AWP _ _ _ _ A H → _) => hK; clear hK)); (repeat (rename (Fr → Hp → Prop) => K; clear K))) | (show Exists _; (repeat (rename (∀ (A : Fr) (H : Hp), AWP _ _ _ _ A H → _) => hK; clear hK)); (repeat (rename (Fr → Hp → Prop) => K; clear K))) | skip)
  refine awp_loop (ι := Nat × List Int) (fun z => [(8, .v (.int .i64 ((z.1 : Nat)))), (7, .own 10 0 1 L.length), (1, .v (.int .i64 (a))), (2, .v (.int .i64 (b)))]) (fun z => Hp.emp.upd 10 (.cells L.length (cM iv 0 z.2))) (fun z => z.1 ≤ L.length ∧ z.2.length = L.length ∧ Hold (∀ i, i < L.length → z.2.getD i 0 = if i < z.1 ∧ L.getD i 0 = b then a else L.getD i 0)) (fun z => L.length - z.1) (0, L) ⟨Nat.zero_le _, rfl, ⟨fun i hi => by simp⟩⟩ (Sub.toL (by simp only [go_sem] <;> first | trivial | (simp only [Option.some.injEq, AV.v.injEq, AV.own.injEq, AV.list.injEq, Value.int.injEq, Value.bool.injEq, true_and, and_true]; first | omega | (simp; done)) | (simp; done) | (simp; omega)) (Hp.le_refl _)) ?_
  rintro ⟨k, out⟩ ⟨hk, ho, hv⟩
  dsimp only at hk ho hv ⊢
  have hk0 : k < L.length → out.getD k 0 = L.getD k 0 := fun h => by rw [hv.h k h, if_neg (by omega)]
  repeat' (first | refine awp_seqK fun K hK => ?_ | (refine awp_regionK 4211143 rfl ?_; simp only [List.map_cons, List.map_nil]; simp (maxSteps := 1000000) (dsimp := false) (implicitDefEqProofs := false) (disch := omega) only [wrap64, go_sem, hk0]) | (refine awp_regionQK 4211143 (by kernel_rfl) (by kernel_rfl) (by kernel_rfl) ?_; simp only [List.map_cons, List.map_nil]; simp (maxSteps := 1000000) (dsimp := false) (implicitDefEqProofs := false) (disch := omega) only [wrap64, go_sem, hk0]) | refine awp_block ?_ | (refine awp_skip ?_; simp only [go_sem, hk0]) | (refine awp_exit ?_; simp only [go_sem, hk0]) | (refine awp_ret ?_; try simp only [go_sem, hk0]) | (refine awp_condP rfl ?_; try simp only [go_sem, hk0]) | (refine BrP.mk (fun h => ?_) (fun h => ?_) <;> try simp (dsimp := false) (disch := omega) only [wrap64]) | (refine Br.mk (fun h => ?_) (fun h => ?_) <;> try simp (dsimp := false) (disch := omega) only [wrap64]) | refine Ob.mk (by first | omega | (intro _ _; rfl) | trivial | (intros; trivial) | assumption | (intro i hi; have h0 : i = 0 := (by omega); subst h0; first | rfl | trivial) | (intro i hi; have h0 : i = 0 ∨ i = 1 := (by omega); rcases h0 with rfl | rfl <;> rfl) | (intro i hi; have h0 : i = 0 ∨ i = 1 ∨ i = 2 := (by omega); rcases h0 with rfl | rfl | rfl <;> rfl)) ?_ | apply_assumption -exfalso -symm)
  all_goals (first | (show endQ _ _ _ _ _ _ _; (repeat (rename (∀ (A : Fr) (H : Hp), AWP _ _ _ _ A H → _) => hK; clear hK)); (repeat (rename (Fr → Hp → Prop) => K; clear K))) | (show Exists _; (repeat (rename (∀ (A : Fr) (H : Hp), AWP _ _ _ _ A H → _) => hK; clear hK)); (repeat (rename (Fr → Hp → Prop) => K; clear K))) | skip)
  · refine ⟨(k + 1, out.set k a), ⟨by dsimp only; omega, by dsimp only; rw [List.length_set]; exact ho, ⟨fun i hi => ?_⟩⟩, by dsimp only; omega, ?_⟩
    · dsimp only
      rw [getD_set (by omega)]
      by_cases e : i = k
      · subst e; rw [if_pos rfl, if_pos ⟨by omega, by assumption⟩]
      · rw [if_neg e, hv.h i hi]
        have : (i < k ∧ L.getD i 0 = b) ↔ (i < k + 1 ∧ L.getD i 0 = b) := ⟨fun h => ⟨by omega, h.2⟩, fun h => ⟨by omega, h.2⟩⟩
        simp only [this]
    · dsimp only
      exact Sub.toL (by simp only [go_sem] <;> first | trivial | (simp only [Option.some.injEq, AV.v.injEq, AV.own.injEq, AV.list.injEq, Value.int.injEq, Value.bool.injEq, true_and, and_true]; first | omega | (simp; done)) | (simp; done) | (simp; omega)) (by (repeat' (first | exact Hp.le_emp _ | exact Hp.le_refl _ | refine Hp.le_upd ?_ ?_)); all_goals (first | rfl | (simp only [go_sem]; first | rfl | (refine cellsE ?_ ?_ <;> (simp)) | (simp))))
  · refine ⟨(k + 1, out), ⟨by dsimp only; omega, ho, ⟨fun i hi => ?_⟩⟩, by dsimp only; omega, Sub.toL (by simp only [go_sem] <;> first | trivial | (simp only [Option.some.injEq, AV.v.injEq, AV.own.injEq, AV.list.injEq, Value.int.injEq, Value.bool.injEq, true_and, and_true]; first | omega | (simp; done)) | (simp; done) | (simp; omega)) (Hp.le_refl _)⟩
    dsimp only
    rw [hv.h i hi]
    by_cases e : i = k
    · subst e; rw [if_neg (by omega), if_neg (fun h => by have := h.2; contradiction)]
    · have : (i < k ∧ L.getD i 0 = b) ↔ (i < k + 1 ∧ L.getD i 0 = b) := ⟨fun h => ⟨by omega, h.2⟩, fun h => ⟨by omega, h.2⟩⟩
      simp only [this]
  · refine end_retI' rfl rfl rfl ?_ ho.symm rfl
    refine eq_of_getD (by rw [ho, Go.Pm.mrg_length]) fun i hi => ?_
    rw [hv.h i (by omega), Go.Pm.mrg_get _ _ _ (by omega)]
    simp only [show i < k by omega, true_and]
/-- The block of x as far as z. -/
def lblK (L : List Int) (x k : Nat) : List Int := ((List.range k).filter fun y => decide (x ≤ y ∧ L.getD y 0 = L.getD x 0)).map fun y : Nat => (y : Int)
theorem lblK_succ (L : List Int) (x k : Nat) : lblK L x (k + 1) = if x ≤ k ∧ L.getD k 0 = L.getD x 0 then lblK L x k ++ [(k : Int)] else lblK L x k := by
  unfold lblK
  rw [List.range_succ, List.filter_append, List.map_append]
  by_cases h : x ≤ k ∧ L.getD k 0 = L.getD x 0
  · rw [if_pos h]
    have : decide (x ≤ k ∧ L.getD k 0 = L.getD x 0) = true := decide_eq_true h
    simp only [List.filter_cons, this, if_true, List.filter_nil, List.map_cons, List.map_nil]
  · rw [if_neg h]
    have : decide (x ≤ k ∧ L.getD k 0 = L.getD x 0) = false := decide_eq_false h
    simp only [List.filter_cons, this, Bool.false_eq_true, if_false, List.filter_nil, List.map_nil, List.append_nil]
theorem lblK_len (L : List Int) (x k : Nat) : (lblK L x k).length ≤ k := by
  unfold lblK
  rw [List.length_map]
  have := List.length_filter_le (fun y => decide (x ≤ y ∧ L.getD y 0 = L.getD x 0)) (List.range k)
  rwa [List.length_range] at this
theorem lblK_zero (L : List Int) (x : Nat) : lblK L x x = [] := by
  unfold lblK
  rw [List.filter_eq_nil_iff.2]
  · rfl
  · intro y hy
    rw [List.mem_range] at hy
    rw [decide_eq_true_eq]; omega
theorem lblK_cls {L : List Int} {x : Nat} (hl : loR (SL L) x = true) : lblK L x L.length = clsF L.length (SL L) x := by
  unfold lblK clsF clsN
  congr 1
  refine List.filter_congr fun y hy => Bool.eq_iff_iff.2 ?_
  rw [decide_eq_true_eq]
  refine Iff.trans ?_ (@decide_eq_true_iff _ (Classical.propDecidable _)).symm
  unfold SL
  refine ⟨fun h => h.2.symm, fun h => ⟨?_, h.symm⟩⟩
  refine Classical.byContradiction fun hc => ?_
  exact (Go.Pm.loR_iff _ _).1 hl y (by omega) h.symm
/-- The labels that have been met. -/
noncomputable def doneK (L : List Int) (k : Nat) : List Int := ((List.range k).filter (loR (SL L))).map fun y => L.getD y 0
theorem doneK_succ (L : List Int) (k : Nat) : doneK L (k + 1) = if loR (SL L) k = true then doneK L k ++ [L.getD k 0] else doneK L k := by
  unfold doneK
  rw [List.range_succ, List.filter_append, List.map_append]
  by_cases h : loR (SL L) k = true
  · rw [if_pos h]; simp [h]
  · rw [if_neg h]; simp [h]
theorem doneK_len (L : List Int) (k : Nat) : (doneK L k).length ≤ k := by
  unfold doneK
  rw [List.length_map]
  have := List.length_filter_le (loR (SL L)) (List.range k)
  rwa [List.length_range] at this
theorem doneK_mem (L : List Int) (k : Nat) : L.getD k 0 ∈ doneK L k ↔ ¬ loR (SL L) k = true := by
  unfold doneK
  rw [List.mem_map]
  constructor
  · rintro ⟨y, hy, e⟩ hl
    rw [List.mem_filter, List.mem_range] at hy
    exact (Go.Pm.loR_iff _ _).1 hl y hy.1 e
  · intro h
    have hE := Go.Pm.SL.eqv (k + 1) L
    obtain ⟨y, hy, hl, hr⟩ := hE.lo (Nat.lt_succ_self k)
    have : y ≠ k := fun e => h (e ▸ hl)
    exact ⟨y, by rw [List.mem_filter, List.mem_range]; exact ⟨by omega, hl⟩, hr⟩
theorem partK_pre (n : Nat) (R : Nat → Nat → Prop) : ∀ {k m : Nat}, k ≤ m → ∃ r, partK n R m = partK n R k ++ r := by
  intro k m hkm
  induction m with
  | zero => exact ⟨[], by rw [show k = 0 by omega, List.append_nil]⟩
  | succ m ih =>
    by_cases e : k = m + 1
    · subst e; exact ⟨[], by rw [List.append_nil]⟩
    · obtain ⟨r, hr⟩ := ih (by omega)
      rw [Go.Pm.partK_succ]
      split
      · exact ⟨r ++ [clsF n R m], by rw [hr, List.append_assoc]⟩
      · exact ⟨r, hr⟩
theorem partK_get {n : Nat} {R : Nat → Nat → Prop} {x m : Nat} (hx : x < m) (hl : loR R x = true) : (partK n R x).length < (partK n R m).length ∧ (partK n R m).getD (partK n R x).length [] = clsF n R x := by
  obtain ⟨r, hr⟩ := partK_pre n R (show x + 1 ≤ m from hx)
  rw [Go.Pm.partK_succ, if_pos hl, List.append_assoc] at hr
  rw [hr]
  refine ⟨by rw [List.length_append, List.length_append, List.length_singleton]; omega, ?_⟩
  rw [List.getD_eq_getElem?_getD, List.getElem?_append_right (Nat.le_refl _), Nat.sub_self]; rfl
theorem PR_ne {d k n g a : Nat} {xss : List (List Int)} {B : Blk} (h : PR d xss k n g = some B) (ha : a < 2097152) (hne : a ≠ d) : g ≠ a := by
  rintro rfl
  rw [PR_lit ha hne] at h
  cases h
/-- A family and one more row are found again. -/
theorem le_addU {d k n a : Nat} {xss : List (List Int)} {X : Blk} {H : Hp} (h1 : H a = some X) (h2 : ∀ g B, PR d xss k n g = some B → H g = some B) : Hp.le ((PR d xss k n).add (Hp.emp.upd a X)) H := by
  intro g B hB
  unfold Hp.add at hB
  cases e : PR d xss k n g with
  | some C => rw [e] at hB; dsimp only at hB; rw [← hB]; exact h2 g C e
  | none =>
    rw [e] at hB
    dsimp only at hB
    unfold Hp.upd at hB
    split at hB
    · rename_i e1; rw [e1, h1]; exact hB
    · cases hB
theorem specLabelsToBlocks_ok (L : List Int) (hl : L.length ≤ 20) (d : Nat) (hd : d < 2097152) : AC Try.prog 104 [ints L] Hp.emp (fun _ => false) (retII d (partK L.length (SL L) L.length)) := by
  have hpl0 := Go.Pm.partK_len L.length (SL L) L.length
  refine AC.famI (d0 := 8) ?_ d (by rw [FB_eq]; omega) hd (by rw [FB_eq]; omega) (fun ρ => by simp only [List.map_cons, List.map_nil, ints_ren])
  obtain ⟨n, en⟩ : ∃ n, n = L.length := ⟨_, rfl⟩
  obtain ⟨P, eP⟩ : ∃ P, P = partK n (SL L) n := ⟨_, rfl⟩
  rw [← en, ← eP]
  have hL : L.length = n := en.symm
  refine ac_of_awp (N := ⟨_, fun _ => false, fun _ _ => rfl⟩) Try.func104 rfl (by kernel_rfl) Try.ntmps104 (by simp) ?_
  simp only [argsFr, List.zipIdx_cons, List.zipIdx_nil, go_sem]
  repeat' (first | refine awp_seqK fun K hK => ?_ | (refine awp_regionK 35201554063613 rfl ?_; simp only [List.map_cons, List.map_nil]; simp (maxSteps := 1000000) (dsimp := false) (implicitDefEqProofs := false) (disch := omega) only [wrap64, go_sem]) | (refine awp_regionQK 35201554063613 (by kernel_rfl) (by kernel_rfl) (by kernel_rfl) ?_; simp only [List.map_cons, List.map_nil]; simp (maxSteps := 1000000) (dsimp := false) (implicitDefEqProofs := false) (disch := omega) only [wrap64, go_sem]) | refine awp_block ?_ | (refine awp_skip ?_; simp only [go_sem]) | (refine awp_exit ?_; simp only [go_sem]) | (refine awp_ret ?_; try simp only [go_sem]) | (refine awp_condP rfl ?_; try simp only [go_sem]) | (refine BrP.mk (fun h => ?_) (fun h => ?_) <;> try simp (dsimp := false) (disch := omega) only [wrap64]) | (refine Br.mk (fun h => ?_) (fun h => ?_) <;> try simp (dsimp := false) (disch := omega) only [wrap64]) | refine Ob.mk (by first | omega | (intro _ _; rfl) | trivial | (intros; trivial) | assumption | (intro i hi; have h0 : i = 0 := (by omega); subst h0; first | rfl | trivial) | (intro i hi; have h0 : i = 0 ∨ i = 1 := (by omega); rcases h0 with rfl | rfl <;> rfl) | (intro i hi; have h0 : i = 0 ∨ i = 1 ∨ i = 2 := (by omega); rcases h0 with rfl | rfl | rfl <;> rfl)) ?_ | apply_assumption -exfalso -symm)
  all_goals (first | (show endQ _ _ _ _ _ _ _; (repeat (rename (∀ (A : Fr) (H : Hp), AWP _ _ _ _ A H → _) => hK; clear hK)); (repeat (rename (Fr → Hp → Prop) => K; clear K))) | (show Exists _; (repeat (rename (∀ (A : Fr) (H : Hp), AWP _ _ _ _ A H → _) => hK; clear hK)); (repeat (rename (Fr → Hp → Prop) => K; clear K))) | skip)
  refine awp_loop (ι := Nat) (fun x => [(5, .v (.int .i64 ((x : Nat)))), (4, .own 9 0 1 (doneK L x).length), (3, .own 8 0 1 (partK n (SL L) x).length), (0, .list false 1 (L).length (cM iv 0 (L)))]) (fun x => (PR 8 P (partK n (SL L) x).length (partK n (SL L) x).length).add (Hp.emp.upd 9 (.cells (doneK L x).length (cM iv 0 (doneK L x))))) (fun x => x ≤ n) (fun x => n - x) 0 (Nat.zero_le _) ?_ ?_
  · refine Sub.trans (Sub.toFF (A' := [(5, .v (.int .i64 (((0 : Nat) : Int)))), (4, .own 9 0 1 0), (3, .own 8 0 1 0), (0, .list false 1 (L).length (cM iv 0 (L)))]) (H' := (Hp.emp.upd 9 (.cells 0 (cM iv 0 []))).upd 8 (.cells 0 (mixF 8 P 0))) (fun _ => False) (Fr.fit_cons rfl (.refl _) (Fr.fit_cons rfl (.refl _) (Fr.fit_cons rfl (.refl _) (Fr.fit_cons rfl (.refl _) (Fr.fit_nil _))))) (leF_upd rfl (bfE rfl (fun i hi => absurd hi (Nat.not_lt_zero _))) (leF_upd rfl (bfE rfl (fun i hi => absurd hi (Nat.not_lt_zero _))) leF_emp id) id)) (Sub.toL (by simp only [go_sem] <;> first | trivial | (simp only [Option.some.injEq, AV.v.injEq, AV.own.injEq, AV.list.injEq, Value.int.injEq, Value.bool.injEq, true_and, and_true]; first | omega | (simp; done)) | (simp; done) | (simp; omega)) ?_)
    exact PR_nil_le (Hp.le_refl _) rfl
  intro x hx
  have hdl := doneK_len L x
  have hpl := Go.Pm.partK_len n (SL L) x
  have hdm := Hold.mk (doneK_mem L x)
  repeat' (first | refine awp_seqK fun K hK => ?_ | (refine awp_regionK 35201554063613 rfl ?_; simp only [List.map_cons, List.map_nil]; simp (maxSteps := 1000000) (dsimp := false) (implicitDefEqProofs := false) (disch := omega) only [wrap64, go_sem]) | (refine awp_regionQK 35201554063613 (by kernel_rfl) (by kernel_rfl) (by kernel_rfl) ?_; simp only [List.map_cons, List.map_nil]; simp (maxSteps := 1000000) (dsimp := false) (implicitDefEqProofs := false) (disch := omega) only [wrap64, go_sem]) | refine awp_block ?_ | (refine awp_skip ?_; simp only [go_sem]) | (refine awp_exit ?_; simp only [go_sem]) | (refine awp_ret ?_; try simp only [go_sem]) | (refine awp_condP rfl ?_; try simp only [go_sem]) | (refine BrP.mk (fun h => ?_) (fun h => ?_) <;> try simp (dsimp := false) (disch := omega) only [wrap64]) | (refine Br.mk (fun h => ?_) (fun h => ?_) <;> try simp (dsimp := false) (disch := omega) only [wrap64]) | refine Ob.mk (by first | omega | (intro _ _; rfl) | trivial | (intros; trivial) | assumption | (intro i hi; have h0 : i = 0 := (by omega); subst h0; first | rfl | trivial) | (intro i hi; have h0 : i = 0 ∨ i = 1 := (by omega); rcases h0 with rfl | rfl <;> rfl) | (intro i hi; have h0 : i = 0 ∨ i = 1 ∨ i = 2 := (by omega); rcases h0 with rfl | rfl | rfl <;> rfl)) ?_ | ((first | ((first | refine atF (f := 126) ?_ | refine atQ (f := 126) ?_); (first | (refine cV (hac := containsInt_ok (doneK L x) (L.getD x 0) (by omega)) (hK := ?_)) | (refine cQV (hac := containsInt_ok (doneK L x) (L.getD x 0) (by omega)) (hK := ?_))))); simp (maxSteps := 1000000) (dsimp := false) (implicitDefEqProofs := false) (disch := omega) only [wrap64, go_sem]) | apply_assumption -exfalso -symm)
  all_goals (first | (show endQ _ _ _ _ _ _ _; (repeat (rename (∀ (A : Fr) (H : Hp), AWP _ _ _ _ A H → _) => hK; clear hK)); (repeat (rename (Fr → Hp → Prop) => K; clear K))) | (show Exists _; (repeat (rename (∀ (A : Fr) (H : Hp), AWP _ _ _ _ A H → _) => hK; clear hK)); (repeat (rename (Fr → Hp → Prop) => K; clear K))) | skip)
  · have hlo : ¬ loR (SL L) x = true := hdm.h.1 (by assumption)
    have e1 : partK n (SL L) (x + 1) = partK n (SL L) x := by rw [Go.Pm.partK_succ, if_neg hlo]
    have e2 : doneK L (x + 1) = doneK L x := by rw [doneK_succ, if_neg hlo]
    refine ⟨x + 1, by omega, by omega, ?_⟩
    rw [e1, e2]
    exact Sub.toL (by simp only [go_sem] <;> first | trivial | (simp only [Option.some.injEq, AV.v.injEq, AV.own.injEq, AV.list.injEq, Value.int.injEq, Value.bool.injEq, true_and, and_true]; first | omega | (simp; done)) | (simp; done) | (simp; omega)) (Hp.le_refl _)
  · have hlo : loR (SL L) x = true := Classical.byContradiction fun h => absurd (hdm.h.2 h) (by assumption)
    have e1 : partK n (SL L) (x + 1) = partK n (SL L) x ++ [clsF n (SL L) x] := by rw [Go.Pm.partK_succ, if_pos hlo]
    have e2 : doneK L (x + 1) = doneK L x ++ [L.getD x 0] := by rw [doneK_succ, if_pos hlo]
    have e3 : (doneK L (x + 1)).length = (doneK L x).length + 1 := by rw [e2, List.length_append, List.length_singleton]
    have hdl1 := doneK_len L (x + 1)
    refine awp_loop (ι := Nat) (fun z => [(7, .v (.int .i64 ((z : Nat)))), (6, .own 29 0 1 (lblK L x z).length), (5, .v (.int .i64 ((x : Nat)))), (4, .own 9 0 1 (doneK L (x + 1)).length), (3, .own 8 0 1 (partK n (SL L) x).length), (0, .list false 1 (L).length (cM iv 0 (L)))]) (fun z => ((PR 8 P (partK n (SL L) x).length (partK n (SL L) x).length).add (Hp.emp.upd 9 (.cells (doneK L (x + 1)).length (cM iv 0 (doneK L (x + 1)))))).upd 29 (.cells (lblK L x z).length (cM iv 0 (lblK L x z)))) (fun z => x ≤ z ∧ z ≤ n) (fun z => n - z) x ⟨Nat.le_refl _, hx⟩ ?_ ?_
    · rw [lblK_zero, e3, e2]
      refine Sub.toL (by simp only [go_sem] <;> first | trivial | (simp only [Option.some.injEq, AV.v.injEq, AV.own.injEq, AV.list.injEq, Value.int.injEq, Value.bool.injEq, true_and, and_true]; first | omega | (simp; done)) | (simp; done) | (simp; omega)) ?_
      exact Hp.le_upd rfl (le_addU rfl (fun g B hg => by simp only [Hp.upd, if_neg (PR_ne hg (show 29 < 2097152 by decide) (by decide)), if_neg (PR_ne hg (show 9 < 2097152 by decide) (by decide)), if_neg (PR_ne hg (show 27 < 2097152 by decide) (by decide))]; exact Hp.add_some hg))
    rintro z ⟨hxz, hz⟩
    have hbl := lblK_len L x z
    have hsz := lblK_succ L x z
    repeat' (first | refine awp_seqK fun K hK => ?_ | (refine awp_regionK 35201554063613 rfl ?_; simp only [List.map_cons, List.map_nil]; simp (maxSteps := 1000000) (dsimp := false) (implicitDefEqProofs := false) (disch := omega) only [wrap64, go_sem]) | (refine awp_regionQK 35201554063613 (by kernel_rfl) (by kernel_rfl) (by kernel_rfl) ?_; simp only [List.map_cons, List.map_nil]; simp (maxSteps := 1000000) (dsimp := false) (implicitDefEqProofs := false) (disch := omega) only [wrap64, go_sem]) | refine awp_block ?_ | (refine awp_skip ?_; simp only [go_sem]) | (refine awp_exit ?_; simp only [go_sem]) | (refine awp_ret ?_; try simp only [go_sem]) | (refine awp_condP rfl ?_; try simp only [go_sem]) | (refine BrP.mk (fun h => ?_) (fun h => ?_) <;> try simp (dsimp := false) (disch := omega) only [wrap64]) | (refine Br.mk (fun h => ?_) (fun h => ?_) <;> try simp (dsimp := false) (disch := omega) only [wrap64]) | refine Ob.mk (by first | omega | (intro _ _; rfl) | trivial | (intros; trivial) | assumption | (intro i hi; have h0 : i = 0 := (by omega); subst h0; first | rfl | trivial) | (intro i hi; have h0 : i = 0 ∨ i = 1 := (by omega); rcases h0 with rfl | rfl <;> rfl) | (intro i hi; have h0 : i = 0 ∨ i = 1 ∨ i = 2 := (by omega); rcases h0 with rfl | rfl | rfl <;> rfl)) ?_ | apply_assumption -exfalso -symm)
    all_goals (first | (show endQ _ _ _ _ _ _ _; (repeat (rename (∀ (A : Fr) (H : Hp), AWP _ _ _ _ A H → _) => hK; clear hK)); (repeat (rename (Fr → Hp → Prop) => K; clear K))) | (show Exists _; (repeat (rename (∀ (A : Fr) (H : Hp), AWP _ _ _ _ A H → _) => hK; clear hK)); (repeat (rename (Fr → Hp → Prop) => K; clear K))) | skip)
    · have e4 : lblK L x (z + 1) = lblK L x z ++ [(z : Int)] := by rw [hsz, if_pos ⟨hxz, by assumption⟩]
      have e5 : (lblK L x (z + 1)).length = (lblK L x z).length + 1 := by rw [e4, List.length_append, List.length_singleton]
      refine ⟨z + 1, ⟨by omega, by omega⟩, by omega, ?_⟩
      rw [e5, e4]
      refine Sub.toL (by simp only [go_sem] <;> first | trivial | (simp only [Option.some.injEq, AV.v.injEq, AV.own.injEq, AV.list.injEq, Value.int.injEq, Value.bool.injEq, true_and, and_true]; first | omega | (simp; done)) | (simp; done) | (simp; omega)) ?_
      exact Hp.le_upd rfl (le_addU rfl (fun g B hg => by simp only [Hp.upd, if_neg (PR_ne hg (show 29 < 2097152 by decide) (by decide)), if_neg (PR_ne hg (show 48 < 2097152 by decide) (by decide))]; exact Hp.add_some hg))
    · have e4 : lblK L x (z + 1) = lblK L x z := by rw [hsz, if_neg fun h => by have := h.2; contradiction]
      refine ⟨z + 1, ⟨by omega, by omega⟩, by omega, ?_⟩
      rw [e4]
      exact Sub.toL (by simp only [go_sem] <;> first | trivial | (simp only [Option.some.injEq, AV.v.injEq, AV.own.injEq, AV.list.injEq, Value.int.injEq, Value.bool.injEq, true_and, and_true]; first | omega | (simp; done)) | (simp; done) | (simp; omega)) (Hp.le_refl _)
    · have ez : z = n := by omega
      have e6 : lblK L x z = clsF n (SL L) x := by rw [ez, en]; exact lblK_cls hlo
      have e7 := partK_get (n := n) (R := SL L) (x := x) (m := n) (by omega) hlo
      rw [← eP] at e7
      have e8 : (partK n (SL L) (x + 1)).length = (partK n (SL L) x).length + 1 := by rw [e1, List.length_append, List.length_singleton]
      refine ⟨x + 1, by omega, by omega, ?_⟩
      rw [e6, ← e7.2, e8]
      refine Sub.absorbA (by omega) (by omega) (by omega) (by omega) (by omega) (by omega) (by omega) rfl (by simp only [go_sem] <;> first | trivial | (simp only [Option.some.injEq, AV.v.injEq, AV.own.injEq, AV.list.injEq, Value.int.injEq, Value.bool.injEq, true_and, and_true]; first | omega | (simp; done)) | (simp; done) | (simp; omega)) (by simp only [Fr.low, AV.low, and_true, true_and]; first | done | omega | trivial) (low_upd ⟨by omega, by omega, by omega, by omega, fun i => ?_⟩ low_emp)
      exact trivial
  · have e : x = n := by omega
    subst e
    rw [← eP]
    exact end_retII rfl rfl rfl (fun g B hB => Hp.add_some hB)
end Go.Proofs.Ytngpacdhpblpbaa
end
/- Block systems, the reference: the finest block system with two points in one block. -/
section
namespace Go.Proofs.Ytngpacdhpblpbaa
open Go.Av
set_option linter.unusedSimpArgs false
set_option linter.unusedVariables false
attribute [local irreducible] AWP CallG Ob Br BrP Go.Av.Sub endQ AOps OpV AC thenA blkA opsVC opVC withA withArgs opsQ opQ CallQ withA2 withArgs2
open Go.Pm (Pm ptI partI IsPart ixP Rsp rspI actP img invp mrg Lbl SL parts loR clsF clsN partK Cg MB Snd cntL idn)
/-- What has been looked at: all pairs of k generators, those of i points, those of j. -/
def qsP (n : Nat) (gs : List (List Int)) (k i j : Nat) (L : List Int) : Prop :=
  (∀ k', k' < k → ∀ i', i' < n → ∀ j', j' < i' → SL L i' j' → SL L (img (gs.getD k' []) i') (img (gs.getD k' []) j')) ∧
  (∀ i', i' < i → ∀ j', j' < i' → SL L i' j' → SL L (img (gs.getD k []) i') (img (gs.getD k []) j')) ∧
  (∀ j', j' < j → SL L i j' → SL L (img (gs.getD k []) i) (img (gs.getD k []) j'))
section
variable {n k i j : Nat} {gs : List (List Int)} {L : List Int}
theorem qsP_zero (n : Nat) (gs : List (List Int)) (L : List Int) : qsP n gs 0 0 0 L := ⟨fun _ h => absurd h (Nat.not_lt_zero _), fun _ h => absurd h (Nat.not_lt_zero _), fun _ h => absurd h (Nat.not_lt_zero _)⟩
theorem qsP_j (h : qsP n gs k i j L) (hj : SL L i j → SL L (img (gs.getD k []) i) (img (gs.getD k []) j)) : qsP n gs k i (j + 1) L := ⟨h.1, h.2.1, fun j' hj' => by
  by_cases e : j' = j
  · subst e; exact hj
  · exact h.2.2 j' (by omega)⟩
theorem qsP_i (h : qsP n gs k i i L) : qsP n gs k (i + 1) 0 L := ⟨h.1, fun i' hi' => by
  by_cases e : i' = i
  · subst e; exact h.2.2
  · exact h.2.1 i' (by omega), fun _ h => absurd h (Nat.not_lt_zero _)⟩
theorem qsP_k (h : qsP n gs k n 0 L) : qsP n gs (k + 1) 0 0 L := ⟨fun k' hk' => by
  by_cases e : k' = k
  · subst e; exact h.2.1
  · exact h.1 k' (by omega), fun _ h => absurd h (Nat.not_lt_zero _), fun _ h => absurd h (Nat.not_lt_zero _)⟩
theorem qsP_end (h : qsP n gs gs.length 0 0 L) : ∀ g ∈ gs, ∀ i j, i < n → j < n → SL L i j → SL L (img g i) (img g j) := fun g hg i j hi hj hs => by
  obtain ⟨k, hk, rfl⟩ := List.getElem_of_mem hg
  have e : gs.getD k [] = gs[k] := by simp [hk]
  have hq := h.1 k hk
  rw [e] at hq
  rcases Nat.lt_trichotomy i j with hl | rfl | hl
  · exact Eq.symm (hq j hj i hl (Eq.symm hs))
  · rfl
  · exact hq i hi j hl hs
end
/-- Two points that are to share a block. -/
def bbP (x y : Nat) (a b : Nat) : Prop := a = x ∧ b = y
theorem mrg_start {n x y : Nat} (gs : List (List Int)) (hx : x < n) (hy : y < n) : Lbl n (mrg (idn n) x y) ∧ Snd n gs (bbP x y) (mrg (idn n) x y) ∧ ∀ a b, bbP x y a b → a < n ∧ b < n ∧ SL (mrg (idn n) x y) a b := by
  have ex : (idn n).getD x 0 = (x : Int) := Go.Pm.idn_get hx
  have ey : (idn n).getD y 0 = (y : Int) := Go.Pm.idn_get hy
  have h1 := (Go.Pm.Lbl.idn n).mrg (a := x) (b := y) (by omega)
  have h2 := (Go.Pm.Snd.idn (n := n) (gs := gs) (B := bbP x y)).mrg (Go.Pm.idn_length n) hx hy (.base ⟨rfl, rfl⟩)
  have h3 := Go.Pm.SL.made (Go.Pm.idn_length n) hx hy
  rw [ex, ey] at h2 h3
  exact ⟨h1, h2, fun a b ⟨e1, e2⟩ => by rw [e1, e2]; exact ⟨hx, hy, h3⟩⟩
set_option maxHeartbeats 4000000 in
theorem specMinimalBlocks_ok (n : Nat) (gs : List (List Int)) (x y : Nat) (hok : isGens (n : Int) gs) (hx : x < n) (hy : y < n) : AC Try.prog 95 [.v (.int .i64 ((n : Nat))), intss gs, .v (.int .i64 ((x : Nat))), .v (.int .i64 ((y : Nat)))] Hp.emp (fun _ => false) (retV (intss (parts (Cg gs (bbP x y)) n))) := by
  obtain ⟨h1, h2, h3⟩ := gens_pm hok
  rw [Int.toNat_natCast] at h1
  have h1 := Hold.mk h1
  have hgl := hok.2.1
  have hid : AC Try.prog 81 [.v (.int .i64 ((n : Nat)))] Hp.emp (fun _ => false) (retI 17 (idn n)) := by rw [idn_marks]; exact specIdentity_ok n (by omega) 17
  have hil := Go.Pm.idn_length n
  have hst := Hold.mk (mrg_start gs hx hy)
  refine ac_of_awp (N := ⟨_, fun _ => false, fun _ _ => rfl⟩) Try.func95 rfl (by kernel_rfl) Try.ntmps95 (by simp) ?_
  simp only [argsFr, List.zipIdx_cons, List.zipIdx_nil, go_sem]
  repeat' (first | refine awp_seqK fun K hK => ?_ | (refine awp_regionK 2361183241470291803919 rfl ?_; simp only [List.map_cons, List.map_nil]; simp (maxSteps := 1000000) (dsimp := false) (implicitDefEqProofs := false) (disch := omega) only [wrap64, go_sem]) | (refine awp_regionQK 2361183241470291803919 (by kernel_rfl) (by kernel_rfl) (by kernel_rfl) ?_; simp only [List.map_cons, List.map_nil]; simp (maxSteps := 1000000) (dsimp := false) (implicitDefEqProofs := false) (disch := omega) only [wrap64, go_sem]) | refine awp_block ?_ | (refine awp_skip ?_; simp only [go_sem]) | (refine awp_exit ?_; simp only [go_sem]) | (refine awp_ret ?_; try simp only [go_sem]) | (refine awp_condP rfl ?_; try simp only [go_sem]) | (refine BrP.mk (fun h => ?_) (fun h => ?_) <;> try simp (dsimp := false) (disch := omega) only [wrap64]) | (refine Br.mk (fun h => ?_) (fun h => ?_) <;> try simp (dsimp := false) (disch := omega) only [wrap64]) | refine Ob.mk (by first | omega | (intro _ _; rfl) | trivial | (intros; trivial) | assumption | (intro i hi; have h0 : i = 0 := (by omega); subst h0; first | rfl | trivial) | (intro i hi; have h0 : i = 0 ∨ i = 1 := (by omega); rcases h0 with rfl | rfl <;> rfl) | (intro i hi; have h0 : i = 0 ∨ i = 1 ∨ i = 2 := (by omega); rcases h0 with rfl | rfl | rfl <;> rfl)) ?_ | ((first | (refine cFI (hac := hid) (hK := ?_)) | (refine cQI (hac := hid) (hK := ?_)) | ((first | refine atF (f := 103) ?_ | refine atQ (f := 103) ?_); (first | (refine cFI (hac := specMergeLabels_ok (idn n) x y (by omega) 20) (hK := ?_)) | (refine cQI (hac := specMergeLabels_ok (idn n) x y (by omega) 20) (hK := ?_))))); simp (maxSteps := 1000000) (dsimp := false) (implicitDefEqProofs := false) (disch := omega) only [wrap64, go_sem]) | apply_assumption -exfalso -symm)
  all_goals (first | (show endQ _ _ _ _ _ _ _; (repeat (rename (∀ (A : Fr) (H : Hp), AWP _ _ _ _ A H → _) => hK; clear hK)); (repeat (rename (Fr → Hp → Prop) => K; clear K))) | (show Exists _; (repeat (rename (∀ (A : Fr) (H : Hp), AWP _ _ _ _ A H → _) => hK; clear hK)); (repeat (rename (Fr → Hp → Prop) => K; clear K))) | skip)
  refine awp_loop (ι := List Int × Bool) (fun z => [(10, .v (.bool (z.2))), (9, .list false 1 (z.1).length (cM iv 0 (z.1))), (0, .v (.int .i64 ((n : Nat)))), (1, .list false 1 (gs).length (cM ints [] (gs)))]) (fun _ => Hp.emp) (fun z => Hold (Lbl n z.1 ∧ Snd n gs (bbP x y) z.1 ∧ (∀ a b, bbP x y a b → a < n ∧ b < n ∧ SL z.1 a b) ∧ (z.2 = false → ∀ g ∈ gs, ∀ i j, i < n → j < n → SL z.1 i j → SL z.1 (img g i) (img g j)))) (fun z => 2 * cntL n z.1 + (if z.2 = true then 1 else 0)) (mrg (idn n) x y, true) ⟨⟨hst.h.1, hst.h.2.1, hst.h.2.2, fun h => by cases h⟩⟩ (Sub.toL (by simp only [go_sem] <;> first | trivial | (simp only [Option.some.injEq, AV.v.injEq, AV.own.injEq, AV.list.injEq, Value.int.injEq, Value.bool.injEq, true_and, and_true]; first | omega | (simp; done)) | (simp; done) | (simp; omega)) (Hp.le_refl _)) ?_
  rintro ⟨L0, c0⟩ hv
  dsimp only at hv ⊢
  have hl0 := hv.h.1.len
  have hb := Hold.mk hv.h.2.2.1
  have hms : Hold (MB n gs (bbP x y) L0 (qsP n gs 0 0 0) L0 false) := ⟨.start hv.h.1 hv.h.2.1 hb.h (qsP_zero n gs L0)⟩
  repeat' (first | refine awp_seqK fun K hK => ?_ | (refine awp_regionK 2361183241470291803919 rfl ?_; simp only [List.map_cons, List.map_nil]; simp (maxSteps := 1000000) (dsimp := false) (implicitDefEqProofs := false) (disch := omega) only [wrap64, go_sem]) | (refine awp_regionQK 2361183241470291803919 (by kernel_rfl) (by kernel_rfl) (by kernel_rfl) ?_; simp only [List.map_cons, List.map_nil]; simp (maxSteps := 1000000) (dsimp := false) (implicitDefEqProofs := false) (disch := omega) only [wrap64, go_sem]) | refine awp_block ?_ | (refine awp_skip ?_; simp only [go_sem]) | (refine awp_exit ?_; simp only [go_sem]) | (refine awp_ret ?_; try simp only [go_sem]) | (refine awp_condP rfl ?_; try simp only [go_sem]) | (refine BrP.mk (fun h => ?_) (fun h => ?_) <;> try simp (dsimp := false) (disch := omega) only [wrap64]) | (refine Br.mk (fun h => ?_) (fun h => ?_) <;> try simp (dsimp := false) (disch := omega) only [wrap64]) | refine Ob.mk (by first | omega | (intro _ _; rfl) | trivial | (intros; trivial) | assumption | (intro i hi; have h0 : i = 0 := (by omega); subst h0; first | rfl | trivial) | (intro i hi; have h0 : i = 0 ∨ i = 1 := (by omega); rcases h0 with rfl | rfl <;> rfl) | (intro i hi; have h0 : i = 0 ∨ i = 1 ∨ i = 2 := (by omega); rcases h0 with rfl | rfl | rfl <;> rfl)) ?_ | apply_assumption -exfalso -symm)
  all_goals (first | (show endQ _ _ _ _ _ _ _; (repeat (rename (∀ (A : Fr) (H : Hp), AWP _ _ _ _ A H → _) => hK; clear hK)); (repeat (rename (Fr → Hp → Prop) => K; clear K))) | (show Exists _; (repeat (rename (∀ (A : Fr) (H : Hp), AWP _ _ _ _ A H → _) => hK; clear hK)); (repeat (rename (Fr → Hp → Prop) => K; clear K))) | skip)
  · refine awp_loop (ι := Nat × List Int × Bool) (fun z => [(11, .v (.int .i64 ((z.1 : Nat)))), (10, .v (.bool (z.2.2))), (9, .list false 1 (z.2.1).length (cM iv 0 (z.2.1))), (0, .v (.int .i64 ((n : Nat)))), (1, .list false 1 (gs).length (cM ints [] (gs)))]) (fun _ => Hp.emp) (fun z => z.1 ≤ gs.length ∧ Hold (MB n gs (bbP x y) L0 (qsP n gs z.1 0 0) z.2.1 z.2.2)) (fun z => gs.length - z.1) (0, L0, false) ⟨Nat.zero_le _, hms⟩ (Sub.toL (by simp only [go_sem] <;> first | trivial | (simp only [Option.some.injEq, AV.v.injEq, AV.own.injEq, AV.list.injEq, Value.int.injEq, Value.bool.injEq, true_and, and_true]; first | omega | (simp; done)) | (simp; done) | (simp; omega)) (Hp.le_refl _)) ?_
    rintro ⟨k, L, ch⟩ ⟨hk, hm⟩
    dsimp only at hk hm ⊢
    have hlL := hm.h.lbl.len
    repeat' (first | refine awp_seqK fun K hK => ?_ | (refine awp_regionK 2361183241470291803919 rfl ?_; simp only [List.map_cons, List.map_nil]; simp (maxSteps := 1000000) (dsimp := false) (implicitDefEqProofs := false) (disch := omega) only [wrap64, go_sem]) | (refine awp_regionQK 2361183241470291803919 (by kernel_rfl) (by kernel_rfl) (by kernel_rfl) ?_; simp only [List.map_cons, List.map_nil]; simp (maxSteps := 1000000) (dsimp := false) (implicitDefEqProofs := false) (disch := omega) only [wrap64, go_sem]) | refine awp_block ?_ | (refine awp_skip ?_; simp only [go_sem]) | (refine awp_exit ?_; simp only [go_sem]) | (refine awp_ret ?_; try simp only [go_sem]) | (refine awp_condP rfl ?_; try simp only [go_sem]) | (refine BrP.mk (fun h => ?_) (fun h => ?_) <;> try simp (dsimp := false) (disch := omega) only [wrap64]) | (refine Br.mk (fun h => ?_) (fun h => ?_) <;> try simp (dsimp := false) (disch := omega) only [wrap64]) | refine Ob.mk (by first | omega | (intro _ _; rfl) | trivial | (intros; trivial) | assumption | (intro i hi; have h0 : i = 0 := (by omega); subst h0; first | rfl | trivial) | (intro i hi; have h0 : i = 0 ∨ i = 1 := (by omega); rcases h0 with rfl | rfl <;> rfl) | (intro i hi; have h0 : i = 0 ∨ i = 1 ∨ i = 2 := (by omega); rcases h0 with rfl | rfl | rfl <;> rfl)) ?_ | apply_assumption -exfalso -symm)
    all_goals (first | (show endQ _ _ _ _ _ _ _; (repeat (rename (∀ (A : Fr) (H : Hp), AWP _ _ _ _ A H → _) => hK; clear hK)); (repeat (rename (Fr → Hp → Prop) => K; clear K))) | (show Exists _; (repeat (rename (∀ (A : Fr) (H : Hp), AWP _ _ _ _ A H → _) => hK; clear hK)); (repeat (rename (Fr → Hp → Prop) => K; clear K))) | skip)
    · refine awp_loop (ι := Nat × List Int × Bool) (fun z => [(12, .v (.int .i64 ((z.1 : Nat)))), (11, .v (.int .i64 ((k : Nat)))), (10, .v (.bool (z.2.2))), (9, .list false 1 (z.2.1).length (cM iv 0 (z.2.1))), (0, .v (.int .i64 ((n : Nat)))), (1, .list false 1 (gs).length (cM ints [] (gs)))]) (fun _ => Hp.emp) (fun z => z.1 ≤ n ∧ Hold (MB n gs (bbP x y) L0 (qsP n gs k z.1 0) z.2.1 z.2.2)) (fun z => n - z.1) (0, L, ch) ⟨Nat.zero_le _, hm⟩ (Sub.toL (by simp only [go_sem] <;> first | trivial | (simp only [Option.some.injEq, AV.v.injEq, AV.own.injEq, AV.list.injEq, Value.int.injEq, Value.bool.injEq, true_and, and_true]; first | omega | (simp; done)) | (simp; done) | (simp; omega)) (Hp.le_refl _)) ?_
      clear hm hlL L ch
      rintro ⟨i, L, ch⟩ ⟨hi, hm⟩
      dsimp only at hi hm ⊢
      have hlL := hm.h.lbl.len
      repeat' (first | refine awp_seqK fun K hK => ?_ | (refine awp_regionK 2361183241470291803919 rfl ?_; simp only [List.map_cons, List.map_nil]; simp (maxSteps := 1000000) (dsimp := false) (implicitDefEqProofs := false) (disch := omega) only [wrap64, go_sem]) | (refine awp_regionQK 2361183241470291803919 (by kernel_rfl) (by kernel_rfl) (by kernel_rfl) ?_; simp only [List.map_cons, List.map_nil]; simp (maxSteps := 1000000) (dsimp := false) (implicitDefEqProofs := false) (disch := omega) only [wrap64, go_sem]) | refine awp_block ?_ | (refine awp_skip ?_; simp only [go_sem]) | (refine awp_exit ?_; simp only [go_sem]) | (refine awp_ret ?_; try simp only [go_sem]) | (refine awp_condP rfl ?_; try simp only [go_sem]) | (refine BrP.mk (fun h => ?_) (fun h => ?_) <;> try simp (dsimp := false) (disch := omega) only [wrap64]) | (refine Br.mk (fun h => ?_) (fun h => ?_) <;> try simp (dsimp := false) (disch := omega) only [wrap64]) | refine Ob.mk (by first | omega | (intro _ _; rfl) | trivial | (intros; trivial) | assumption | (intro i hi; have h0 : i = 0 := (by omega); subst h0; first | rfl | trivial) | (intro i hi; have h0 : i = 0 ∨ i = 1 := (by omega); rcases h0 with rfl | rfl <;> rfl) | (intro i hi; have h0 : i = 0 ∨ i = 1 ∨ i = 2 := (by omega); rcases h0 with rfl | rfl | rfl <;> rfl)) ?_ | apply_assumption -exfalso -symm)
      all_goals (first | (show endQ _ _ _ _ _ _ _; (repeat (rename (∀ (A : Fr) (H : Hp), AWP _ _ _ _ A H → _) => hK; clear hK)); (repeat (rename (Fr → Hp → Prop) => K; clear K))) | (show Exists _; (repeat (rename (∀ (A : Fr) (H : Hp), AWP _ _ _ _ A H → _) => hK; clear hK)); (repeat (rename (Fr → Hp → Prop) => K; clear K))) | skip)
      · refine awp_loop (ι := Nat × List Int × Bool) (fun z => [(13, .v (.int .i64 ((z.1 : Nat)))), (12, .v (.int .i64 ((i : Nat)))), (11, .v (.int .i64 ((k : Nat)))), (10, .v (.bool (z.2.2))), (9, .list false 1 (z.2.1).length (cM iv 0 (z.2.1))), (0, .v (.int .i64 ((n : Nat)))), (1, .list false 1 (gs).length (cM ints [] (gs)))]) (fun _ => Hp.emp) (fun z => z.1 ≤ i ∧ Hold (MB n gs (bbP x y) L0 (qsP n gs k i z.1) z.2.1 z.2.2)) (fun z => i - z.1) (0, L, ch) ⟨Nat.zero_le _, hm⟩ (Sub.toL (by simp only [go_sem] <;> first | trivial | (simp only [Option.some.injEq, AV.v.injEq, AV.own.injEq, AV.list.injEq, Value.int.injEq, Value.bool.injEq, true_and, and_true]; first | omega | (simp; done)) | (simp; done) | (simp; omega)) (Hp.le_refl _)) ?_
        clear hm hlL L ch
        rintro ⟨j, L, ch⟩ ⟨hj, hm⟩
        dsimp only at hj hm ⊢
        have hlL := hm.h.lbl.len
        have hgm : Hold (gs.getD k [] ∈ gs) := ⟨by rw [List.getD_eq_getElem?_getD, List.getElem?_eq_getElem (show k < gs.length by omega)]; exact List.getElem_mem _⟩
        have hpk := Hold.mk (h1.h _ hgm.h)
        have hlen : (gs.getD k []).length = n := hpk.h.1
        obtain ⟨u, eu⟩ : ∃ u, u = img (gs.getD k []) i := ⟨_, rfl⟩
        obtain ⟨v, ev⟩ : ∃ v, v = img (gs.getD k []) j := ⟨_, rfl⟩
        have hgi : (gs.getD k []).getD i 0 = ((u : Nat) : Int) := by rw [eu]; exact hpk.h.get_eq (by omega)
        have hgj : j < i → (gs.getD k []).getD j 0 = ((v : Nat) : Int) := fun h => by rw [ev]; exact hpk.h.get_eq (by omega)
        have hu : u < n := by rw [eu]; exact hpk.h.img_lt (by omega)
        have hv' : j < i → v < n := fun h => by rw [ev]; exact hpk.h.img_lt (by omega)
        repeat' (first | refine awp_seqK fun K hK => ?_ | (refine awp_regionK 2361183241470291803919 rfl ?_; simp only [List.map_cons, List.map_nil]; simp (maxSteps := 1000000) (dsimp := false) (implicitDefEqProofs := false) (disch := omega) only [wrap64, go_sem, hgi, hgj]) | (refine awp_regionQK 2361183241470291803919 (by kernel_rfl) (by kernel_rfl) (by kernel_rfl) ?_; simp only [List.map_cons, List.map_nil]; simp (maxSteps := 1000000) (dsimp := false) (implicitDefEqProofs := false) (disch := omega) only [wrap64, go_sem, hgi, hgj]) | refine awp_block ?_ | (refine awp_skip ?_; simp only [go_sem, hgi, hgj]) | (refine awp_exit ?_; simp only [go_sem, hgi, hgj]) | (refine awp_ret ?_; try simp only [go_sem, hgi, hgj]) | (refine awp_condP rfl ?_; try simp only [go_sem, hgi, hgj]) | (refine BrP.mk (fun h => ?_) (fun h => ?_) <;> try simp (dsimp := false) (disch := omega) only [wrap64]) | (refine Br.mk (fun h => ?_) (fun h => ?_) <;> try simp (dsimp := false) (disch := omega) only [wrap64]) | refine Ob.mk (by first | omega | (intro _ _; rfl) | trivial | (intros; trivial) | assumption | (intro i hi; have h0 : i = 0 := (by omega); subst h0; first | rfl | trivial) | (intro i hi; have h0 : i = 0 ∨ i = 1 := (by omega); rcases h0 with rfl | rfl <;> rfl) | (intro i hi; have h0 : i = 0 ∨ i = 1 ∨ i = 2 := (by omega); rcases h0 with rfl | rfl | rfl <;> rfl)) ?_ | ((first | ((first | refine atF (f := 103) ?_ | refine atQ (f := 103) ?_); (first | (refine cFI (hac := specMergeLabels_ok L (L.getD u 0) (L.getD v 0) (by omega) 75) (hK := ?_)) | (refine cQI (hac := specMergeLabels_ok L (L.getD u 0) (L.getD v 0) (by omega) 75) (hK := ?_))))); simp (maxSteps := 1000000) (dsimp := false) (implicitDefEqProofs := false) (disch := omega) only [wrap64, go_sem, hgi, hgj]) | apply_assumption -exfalso -symm)
        all_goals (first | (show endQ _ _ _ _ _ _ _; (repeat (rename (∀ (A : Fr) (H : Hp), AWP _ _ _ _ A H → _) => hK; clear hK)); (repeat (rename (Fr → Hp → Prop) => K; clear K))) | (show Exists _; (repeat (rename (∀ (A : Fr) (H : Hp), AWP _ _ _ _ A H → _) => hK; clear hK)); (repeat (rename (Fr → Hp → Prop) => K; clear K))) | skip)
        · refine ⟨(j + 1, L, ch), ⟨by dsimp only; omega, ⟨hm.h.miss fun hq => qsP_j hq fun _ => ?_⟩⟩, by dsimp only; omega, Sub.toL (by simp only [go_sem] <;> first | trivial | (simp only [Option.some.injEq, AV.v.injEq, AV.own.injEq, AV.list.injEq, Value.int.injEq, Value.bool.injEq, true_and, and_true]; first | omega | (simp; done)) | (simp; done) | (simp; omega)) (Hp.le_refl _)⟩
          rw [← eu, ← ev]; assumption
        · have hcg : Cg gs (bbP x y) u v := by
            rw [eu, ev]
            exact .act hgm.h (hm.h.snd i j (by omega) (by omega) (by assumption))
          exact ⟨(j + 1, mrg L (L.getD u 0) (L.getD v 0), true), ⟨by dsimp only; omega, ⟨hm.h.hit hu (hv' (by omega)) hcg (by assumption)⟩⟩, by dsimp only; omega, Sub.toL (by simp only [go_sem] <;> first | trivial | (simp only [Option.some.injEq, AV.v.injEq, AV.own.injEq, AV.list.injEq, Value.int.injEq, Value.bool.injEq, true_and, and_true]; first | omega | (simp; done)) | (simp; done) | (simp; omega)) (Hp.le_refl _)⟩
        · exact ⟨(j + 1, L, ch), ⟨by dsimp only; omega, ⟨hm.h.miss fun hq => qsP_j hq fun hs => absurd hs (by assumption)⟩⟩, by dsimp only; omega, Sub.toL (by simp only [go_sem] <;> first | trivial | (simp only [Option.some.injEq, AV.v.injEq, AV.own.injEq, AV.list.injEq, Value.int.injEq, Value.bool.injEq, true_and, and_true]; first | omega | (simp; done)) | (simp; done) | (simp; omega)) (Hp.le_refl _)⟩
        · have ej : j = i := by omega
          subst ej
          exact ⟨(j + 1, L, ch), ⟨by dsimp only; omega, ⟨hm.h.miss qsP_i⟩⟩, by dsimp only; omega, Sub.toL (by simp only [go_sem] <;> first | trivial | (simp only [Option.some.injEq, AV.v.injEq, AV.own.injEq, AV.list.injEq, Value.int.injEq, Value.bool.injEq, true_and, and_true]; first | omega | (simp; done)) | (simp; done) | (simp; omega)) (Hp.le_refl _)⟩
      · have ei : i = n := by omega
        subst ei
        refine ⟨(k + 1, L, ch), ⟨by dsimp only; omega, ⟨hm.h.miss qsP_k⟩⟩, by dsimp only; omega, Sub.toL (by simp only [go_sem] <;> first | trivial | (simp only [Option.some.injEq, AV.v.injEq, AV.own.injEq, AV.list.injEq, Value.int.injEq, Value.bool.injEq, true_and, and_true]; first | omega | (simp; done)) | (simp; done) | (simp; omega)) (Hp.le_refl _)⟩
    · have ek : k = gs.length := by omega
      subst ek
      refine ⟨(L, ch), ⟨hm.h.lbl, hm.h.snd, hm.h.base, fun e => ?_⟩, ?_, Sub.toL (by simp only [go_sem] <;> first | trivial | (simp only [Option.some.injEq, AV.v.injEq, AV.own.injEq, AV.list.injEq, Value.int.injEq, Value.bool.injEq, true_and, and_true]; first | omega | (simp; done)) | (simp; done) | (simp; omega)) (Hp.le_refl _)⟩
      · dsimp only at e
        subst e
        exact qsP_end (hm.h.no rfl).2
      · dsimp only
        cases ch with
        | true => have := hm.h.yes rfl; simp only [if_true]; split <;> omega
        | false =>
          have e := (hm.h.no rfl).1
          rename_i hc0
          rw [e, hc0]
          simp
  · have ec : c0 = false := by assumption
    have e := Go.Pm.partK_congr (n := n) (R := SL L0) (R' := Cg gs (bbP x y)) (fun i j hi hj => Go.Pm.Cg.iff h1.h hb.h hv.h.2.1 (hv.h.2.2.2 ec) hi hj) (Nat.le_refl n)
    have hpl := Go.Pm.partK_len n (SL L0) n
    have hlb := specLabelsToBlocks_ok L0 (by omega) 77 (by omega)
    rw [hl0] at hlb
    have hll : AV.list false 1 L0.length (cM iv 0 L0) = ints L0 := rfl
    repeat' (first | refine awp_seqK fun K hK => ?_ | (refine awp_regionK 2361183241470291803919 rfl ?_; simp only [List.map_cons, List.map_nil]; simp (maxSteps := 1000000) (dsimp := false) (implicitDefEqProofs := false) (disch := omega) only [wrap64, go_sem]) | (refine awp_regionQK 2361183241470291803919 (by kernel_rfl) (by kernel_rfl) (by kernel_rfl) ?_; simp only [List.map_cons, List.map_nil]; simp (maxSteps := 1000000) (dsimp := false) (implicitDefEqProofs := false) (disch := omega) only [wrap64, go_sem]) | refine awp_block ?_ | (refine awp_skip ?_; simp only [go_sem]) | (refine awp_exit ?_; simp only [go_sem]) | (refine awp_ret ?_; try simp only [go_sem]) | (refine awp_condP rfl ?_; try simp only [go_sem]) | (refine BrP.mk (fun h => ?_) (fun h => ?_) <;> try simp (dsimp := false) (disch := omega) only [wrap64]) | (refine Br.mk (fun h => ?_) (fun h => ?_) <;> try simp (dsimp := false) (disch := omega) only [wrap64]) | refine Ob.mk (by first | omega | (intro _ _; rfl) | trivial | (intros; trivial) | assumption | (intro i hi; have h0 : i = 0 := (by omega); subst h0; first | rfl | trivial) | (intro i hi; have h0 : i = 0 ∨ i = 1 := (by omega); rcases h0 with rfl | rfl <;> rfl) | (intro i hi; have h0 : i = 0 ∨ i = 1 ∨ i = 2 := (by omega); rcases h0 with rfl | rfl | rfl <;> rfl)) ?_ | ((first | (refine cFII (hac := hlb) (hK := ?_)) | (refine cQII (hac := hlb) (hK := ?_))); simp (maxSteps := 1000000) (dsimp := false) (implicitDefEqProofs := false) (disch := omega) only [wrap64, go_sem]) | apply_assumption -exfalso -symm)
    all_goals (first | (show endQ _ _ _ _ _ _ _; (repeat (rename (∀ (A : Fr) (H : Hp), AWP _ _ _ _ A H → _) => hK; clear hK)); (repeat (rename (Fr → Hp → Prop) => K; clear K))) | (show Exists _; (repeat (rename (∀ (A : Fr) (H : Hp), AWP _ _ _ _ A H → _) => hK; clear hK)); (repeat (rename (Fr → Hp → Prop) => K; clear K))) | skip)
    rw [show parts (Cg gs (bbP x y)) n = partK n (SL L0) n from e.symm]
    exact end_retV rfl rfl
/-- Blocks are a block system. -/
def isBS (n : Int) (gs bs : List (List Int)) : Prop := isGens n gs ∧ IsPart n.toNat bs ∧ ∀ k, k < gs.length → Rsp n.toNat (gs.getD k []) bs
noncomputable instance (n : Int) (gs bs : List (List Int)) : Decidable (isBS n gs bs) := Classical.propDecidable _
theorem specIsBlockSystem_ok (n : Int) (gs bs : List (List Int)) (hl : bs.length ≤ 1000000) (hb : ∀ j, (bs.getD j []).length ≤ 1000000) : AC Try.prog 32 [.v (.int .i64 (n)), intss gs, intss bs] Hp.emp (fun _ => false) (retV (.v (.bool (decide (isBS n gs bs))))) := by
  by_cases hok : isGens n gs
  · have hd : decide (isGens n gs) = true := decide_eq_true hok
    obtain ⟨h1, h2, h3⟩ := gens_pm hok
    have hgl := hok.2.1
    have h1 := Hold.mk h1
    have hb := Hold.mk hb
    have hn : ((n.toNat : Nat) : Int) = n := by omega
    have hpt := specIsPartition_ok n.toNat bs (by omega) hl hb.h
    rw [hn] at hpt
    by_cases hp : IsPart n.toNat bs
    · have hdp : decide (partI n bs) = true := decide_eq_true (by rw [← hn]; exact Go.Pm.partI_iff.2 hp)
      have hbx := specBlockIndexes_ok n.toNat bs (by omega) hp 21
      rw [hn] at hbx
      have hp := Hold.mk hp
      refine ac_of_awp (N := ⟨_, fun _ => false, fun _ _ => rfl⟩) Try.func32 rfl (by kernel_rfl) Try.ntmps32 (by simp) ?_
      simp only [argsFr, List.zipIdx_cons, List.zipIdx_nil, go_sem]
      repeat' (first | refine awp_seqK fun K hK => ?_ | (refine awp_regionK 70368777994695 rfl ?_; simp only [List.map_cons, List.map_nil]; simp (maxSteps := 1000000) (dsimp := false) (implicitDefEqProofs := false) (disch := omega) only [wrap64, go_sem, hd, hdp]) | (refine awp_regionQK 70368777994695 (by kernel_rfl) (by kernel_rfl) (by kernel_rfl) ?_; simp only [List.map_cons, List.map_nil]; simp (maxSteps := 1000000) (dsimp := false) (implicitDefEqProofs := false) (disch := omega) only [wrap64, go_sem, hd, hdp]) | refine awp_block ?_ | (refine awp_skip ?_; simp only [go_sem, hd, hdp]) | (refine awp_exit ?_; simp only [go_sem, hd, hdp]) | (refine awp_ret ?_; try simp only [go_sem, hd, hdp]) | (refine awp_condP rfl ?_; try simp only [go_sem, hd, hdp]) | (refine BrP.mk (fun h => ?_) (fun h => ?_) <;> try simp (dsimp := false) (disch := omega) only [wrap64]) | (refine Br.mk (fun h => ?_) (fun h => ?_) <;> try simp (dsimp := false) (disch := omega) only [wrap64]) | refine Ob.mk (by first | omega | (intro _ _; rfl) | trivial | (intros; trivial) | assumption | (intro i hi; have h0 : i = 0 := (by omega); subst h0; first | rfl | trivial) | (intro i hi; have h0 : i = 0 ∨ i = 1 := (by omega); rcases h0 with rfl | rfl <;> rfl) | (intro i hi; have h0 : i = 0 ∨ i = 1 ∨ i = 2 := (by omega); rcases h0 with rfl | rfl | rfl <;> rfl)) ?_ | ((first | ((first | refine atF (f := 27) ?_ | refine atQ (f := 27) ?_); (first | (refine cV (hac := specIsGeneratorSet_ok n gs) (hK := ?_)) | (refine cQV (hac := specIsGeneratorSet_ok n gs) (hK := ?_)))) | (refine cV (hac := hpt) (hK := ?_)) | (refine cQV (hac := hpt) (hK := ?_)) | (refine cFI (hac := hbx) (hK := ?_)) | (refine cQI (hac := hbx) (hK := ?_))); simp (maxSteps := 1000000) (dsimp := false) (implicitDefEqProofs := false) (disch := omega) only [wrap64, go_sem, hd, hdp]) | apply_assumption -exfalso -symm)
      all_goals (first | (show endQ _ _ _ _ _ _ _; (repeat (rename (∀ (A : Fr) (H : Hp), AWP _ _ _ _ A H → _) => hK; clear hK)); (repeat (rename (Fr → Hp → Prop) => K; clear K))) | (show Exists _; (repeat (rename (∀ (A : Fr) (H : Hp), AWP _ _ _ _ A H → _) => hK; clear hK)); (repeat (rename (Fr → Hp → Prop) => K; clear K))) | skip)
      refine awp_loop (ι := Nat) (fun k => [(8, .v (.int .i64 ((k : Nat)))), (7, .list false 1 (ixP n.toNat bs).length (cM iv 0 (ixP n.toNat bs))), (1, .list false 1 (gs).length (cM ints [] (gs))), (2, .list false 1 (bs).length (cM ints [] (bs)))]) (fun _ => Hp.emp) (fun k => k ≤ gs.length ∧ Hold (∀ j, j < k → Rsp n.toNat (gs.getD j []) bs)) (fun k => gs.length - k) 0 ⟨Nat.zero_le _, ⟨fun j h => absurd h (Nat.not_lt_zero _)⟩⟩ (Sub.toL (by simp only [go_sem] <;> first | trivial | (simp only [Option.some.injEq, AV.v.injEq, AV.own.injEq, AV.list.injEq, Value.int.injEq, Value.bool.injEq, true_and, and_true]; first | omega | (simp; done)) | (simp; done) | (simp; omega)) (Hp.le_refl _)) ?_
      rintro k ⟨hk, hv⟩
      have hpk := Hold.mk (fun (h : k < gs.length) => h1.h (gs.getD k []) (by rw [List.getD_eq_getElem?_getD, List.getElem?_eq_getElem h]; exact List.getElem_mem h))
      have hpl := Hold.mk (fun (h : k < gs.length) => (hpk.h h).1)
      repeat' (first | refine awp_seqK fun K hK => ?_ | (refine awp_regionK 70368777994695 rfl ?_; simp only [List.map_cons, List.map_nil]; simp (maxSteps := 1000000) (dsimp := false) (implicitDefEqProofs := false) (disch := omega) only [wrap64, go_sem]) | (refine awp_regionQK 70368777994695 (by kernel_rfl) (by kernel_rfl) (by kernel_rfl) ?_; simp only [List.map_cons, List.map_nil]; simp (maxSteps := 1000000) (dsimp := false) (implicitDefEqProofs := false) (disch := omega) only [wrap64, go_sem]) | refine awp_block ?_ | (refine awp_skip ?_; simp only [go_sem]) | (refine awp_exit ?_; simp only [go_sem]) | (refine awp_ret ?_; try simp only [go_sem]) | (refine awp_condP rfl ?_; try simp only [go_sem]) | (refine BrP.mk (fun h => ?_) (fun h => ?_) <;> try simp (dsimp := false) (disch := omega) only [wrap64]) | (refine Br.mk (fun h => ?_) (fun h => ?_) <;> try simp (dsimp := false) (disch := omega) only [wrap64]) | refine Ob.mk (by first | omega | (intro _ _; rfl) | trivial | (intros; trivial) | assumption | (intro i hi; have h0 : i = 0 := (by omega); subst h0; first | rfl | trivial) | (intro i hi; have h0 : i = 0 ∨ i = 1 := (by omega); rcases h0 with rfl | rfl <;> rfl) | (intro i hi; have h0 : i = 0 ∨ i = 1 ∨ i = 2 := (by omega); rcases h0 with rfl | rfl | rfl <;> rfl)) ?_ | ((first | ((first | refine atF (f := 90) ?_ | refine atQ (f := 90) ?_); (first | (refine cV (hac := specRespects_ok n.toNat (gs.getD k []) bs (by omega) hp.h (hpk.h (by omega))) (hK := ?_)) | (refine cV (hac := specRespects_ok n.toNat (invp (gs.getD k [])) bs (by omega) hp.h (hpk.h (by omega)).inv) (hK := ?_)) | (refine cQV (hac := specRespects_ok n.toNat (gs.getD k []) bs (by omega) hp.h (hpk.h (by omega))) (hK := ?_)) | (refine cQV (hac := specRespects_ok n.toNat (invp (gs.getD k [])) bs (by omega) hp.h (hpk.h (by omega)).inv) (hK := ?_)))) | ((first | refine atF (f := 91) ?_ | refine atQ (f := 91) ?_); (first | (refine cFI (hac := specInverse_ok (gs.getD k []) (by have := hpl.h (by omega); omega) (by rw [hpl.h (by omega)]; exact hpk.h (by omega)) 41) (hK := ?_)) | (refine cQI (hac := specInverse_ok (gs.getD k []) (by have := hpl.h (by omega); omega) (by rw [hpl.h (by omega)]; exact hpk.h (by omega)) 41) (hK := ?_))))); simp (maxSteps := 1000000) (dsimp := false) (implicitDefEqProofs := false) (disch := omega) only [wrap64, go_sem]) | apply_assumption -exfalso -symm)
      all_goals (first | (show endQ _ _ _ _ _ _ _; (repeat (rename (∀ (A : Fr) (H : Hp), AWP _ _ _ _ A H → _) => hK; clear hK)); (repeat (rename (Fr → Hp → Prop) => K; clear K))) | (show Exists _; (repeat (rename (∀ (A : Fr) (H : Hp), AWP _ _ _ _ A H → _) => hK; clear hK)); (repeat (rename (Fr → Hp → Prop) => K; clear K))) | skip)
      · refine ⟨k + 1, ⟨by omega, ⟨fun j hj => ?_⟩⟩, by omega, Sub.toL (by simp only [go_sem] <;> first | trivial | (simp only [Option.some.injEq, AV.v.injEq, AV.own.injEq, AV.list.injEq, Value.int.injEq, Value.bool.injEq, true_and, and_true]; first | omega | (simp; done)) | (simp; done) | (simp; omega)) (Hp.le_refl _)⟩
        by_cases e : j = k
        · subst e; assumption
        · exact hv.h j (by omega)
      · have h9 : Rsp n.toNat (gs.getD k []) bs := by assumption
        have h10 : ¬ Rsp n.toNat (invp (gs.getD k [])) bs := by assumption
        exact absurd (h9.inv (hpk.h (by omega))) h10
      · refine end_retB rfl rfl ?_
        simp only [Bool.false_eq_true, false_iff]
        exact fun hc => absurd (hc.2.2 k (by omega)) (by assumption)
      · refine end_retB rfl rfl ?_
        simp only [true_iff]
        exact ⟨hok, hp.h, fun j hj => hv.h j (by omega)⟩
    · have hdp : decide (partI n bs) = false := decide_eq_false (by rw [← hn]; exact fun h => hp (Go.Pm.partI_iff.1 h))
      have hdb : decide (isBS n gs bs) = false := decide_eq_false fun h => hp h.2.1
      rw [hdb]
      refine ac_of_awp (N := ⟨_, fun _ => false, fun _ _ => rfl⟩) Try.func32 rfl (by kernel_rfl) Try.ntmps32 (by simp) ?_
      simp only [argsFr, List.zipIdx_cons, List.zipIdx_nil, go_sem]
      repeat' (first | refine awp_seqK fun K hK => ?_ | (refine awp_regionK 70368777994695 rfl ?_; simp only [List.map_cons, List.map_nil]; simp (maxSteps := 1000000) (dsimp := false) (implicitDefEqProofs := false) (disch := omega) only [wrap64, go_sem, hd, hdp]) | (refine awp_regionQK 70368777994695 (by kernel_rfl) (by kernel_rfl) (by kernel_rfl) ?_; simp only [List.map_cons, List.map_nil]; simp (maxSteps := 1000000) (dsimp := false) (implicitDefEqProofs := false) (disch := omega) only [wrap64, go_sem, hd, hdp]) | refine awp_block ?_ | (refine awp_skip ?_; simp only [go_sem, hd, hdp]) | (refine awp_exit ?_; simp only [go_sem, hd, hdp]) | (refine awp_ret ?_; try simp only [go_sem, hd, hdp]) | (refine awp_condP rfl ?_; try simp only [go_sem, hd, hdp]) | (refine BrP.mk (fun h => ?_) (fun h => ?_) <;> try simp (dsimp := false) (disch := omega) only [wrap64]) | (refine Br.mk (fun h => ?_) (fun h => ?_) <;> try simp (dsimp := false) (disch := omega) only [wrap64]) | refine Ob.mk (by first | omega | (intro _ _; rfl) | trivial | (intros; trivial) | assumption | (intro i hi; have h0 : i = 0 := (by omega); subst h0; first | rfl | trivial) | (intro i hi; have h0 : i = 0 ∨ i = 1 := (by omega); rcases h0 with rfl | rfl <;> rfl) | (intro i hi; have h0 : i = 0 ∨ i = 1 ∨ i = 2 := (by omega); rcases h0 with rfl | rfl | rfl <;> rfl)) ?_ | ((first | ((first | refine atF (f := 27) ?_ | refine atQ (f := 27) ?_); (first | (refine cV (hac := specIsGeneratorSet_ok n gs) (hK := ?_)) | (refine cQV (hac := specIsGeneratorSet_ok n gs) (hK := ?_)))) | (refine cV (hac := hpt) (hK := ?_)) | (refine cQV (hac := hpt) (hK := ?_))); simp (maxSteps := 1000000) (dsimp := false) (implicitDefEqProofs := false) (disch := omega) only [wrap64, go_sem, hd, hdp]) | apply_assumption -exfalso -symm)
      all_goals (first | (show endQ _ _ _ _ _ _ _; (repeat (rename (∀ (A : Fr) (H : Hp), AWP _ _ _ _ A H → _) => hK; clear hK)); (repeat (rename (Fr → Hp → Prop) => K; clear K))) | (show Exists _; (repeat (rename (∀ (A : Fr) (H : Hp), AWP _ _ _ _ A H → _) => hK; clear hK)); (repeat (rename (Fr → Hp → Prop) => K; clear K))) | skip)
      exact end_retV rfl rfl
  · have hd : decide (isGens n gs) = false := decide_eq_false hok
    have hdb : decide (isBS n gs bs) = false := decide_eq_false fun h => hok h.1
    rw [hdb]
    refine ac_of_awp (N := ⟨_, fun _ => false, fun _ _ => rfl⟩) Try.func32 rfl (by kernel_rfl) Try.ntmps32 (by simp) ?_
    simp only [argsFr, List.zipIdx_cons, List.zipIdx_nil, go_sem]
    repeat' (first | refine awp_seqK fun K hK => ?_ | (refine awp_regionK 70368777994695 rfl ?_; simp only [List.map_cons, List.map_nil]; simp (maxSteps := 1000000) (dsimp := false) (implicitDefEqProofs := false) (disch := omega) only [wrap64, go_sem, hd]) | (refine awp_regionQK 70368777994695 (by kernel_rfl) (by kernel_rfl) (by kernel_rfl) ?_; simp only [List.map_cons, List.map_nil]; simp (maxSteps := 1000000) (dsimp := false) (implicitDefEqProofs := false) (disch := omega) only [wrap64, go_sem, hd]) | refine awp_block ?_ | (refine awp_skip ?_; simp only [go_sem, hd]) | (refine awp_exit ?_; simp only [go_sem, hd]) | (refine awp_ret ?_; try simp only [go_sem, hd]) | (refine awp_condP rfl ?_; try simp only [go_sem, hd]) | (refine BrP.mk (fun h => ?_) (fun h => ?_) <;> try simp (dsimp := false) (disch := omega) only [wrap64]) | (refine Br.mk (fun h => ?_) (fun h => ?_) <;> try simp (dsimp := false) (disch := omega) only [wrap64]) | refine Ob.mk (by first | omega | (intro _ _; rfl) | trivial | (intros; trivial) | assumption | (intro i hi; have h0 : i = 0 := (by omega); subst h0; first | rfl | trivial) | (intro i hi; have h0 : i = 0 ∨ i = 1 := (by omega); rcases h0 with rfl | rfl <;> rfl) | (intro i hi; have h0 : i = 0 ∨ i = 1 ∨ i = 2 := (by omega); rcases h0 with rfl | rfl | rfl <;> rfl)) ?_ | ((first | ((first | refine atF (f := 27) ?_ | refine atQ (f := 27) ?_); (first | (refine cV (hac := specIsGeneratorSet_ok n gs) (hK := ?_)) | (refine cQV (hac := specIsGeneratorSet_ok n gs) (hK := ?_))))); simp (maxSteps := 1000000) (dsimp := false) (implicitDefEqProofs := false) (disch := omega) only [wrap64, go_sem, hd]) | apply_assumption -exfalso -symm)
    all_goals (first | (show endQ _ _ _ _ _ _ _; (repeat (rename (∀ (A : Fr) (H : Hp), AWP _ _ _ _ A H → _) => hK; clear hK)); (repeat (rename (Fr → Hp → Prop) => K; clear K))) | (show Exists _; (repeat (rename (∀ (A : Fr) (H : Hp), AWP _ _ _ _ A H → _) => hK; clear hK)); (repeat (rename (Fr → Hp → Prop) => K; clear K))) | skip)
    exact end_retV rfl rfl
end Go.Proofs.Ytngpacdhpblpbaa
end
/- Block systems, the reference: the join of two partitions. -/
section
namespace Go.Proofs.Ytngpacdhpblpbaa
open Go.Av
set_option linter.unusedSimpArgs false
set_option linter.unusedVariables false
attribute [local irreducible] AWP CallG Ob Br BrP Go.Av.Sub endQ AOps OpV AC thenA blkA opsVC opVC withA withArgs opsQ opQ CallQ withA2 withArgs2
open Go.Pm (Pm ptI partI IsPart ixP Rsp rspI actP img invp mrg Lbl SL SB parts loR clsF clsN partK Cg MB Snd cntL idn)
/-- Points of one block of the one or the other. -/
def jjP (a b : List (List Int)) (i j : Nat) : Prop := SB a i j ∨ SB b i j
/-- Labels when i blocks and k points of the next one have been joined. -/
structure JL (n : Nat) (a b : List (List Int)) (i k : Nat) (L : List Int) : Prop where
  lbl : Lbl n L
  snd : Snd n [] (jjP a b) L
  past : ∀ i', i' < i → ∀ k', k' < ((a ++ b).getD i' []).length → SL L (((a ++ b).getD i' []).getD 0 0).toNat (((a ++ b).getD i' []).getD k' 0).toNat
  row : ∀ k', k' < k → SL L (((a ++ b).getD i []).getD 0 0).toNat (((a ++ b).getD i []).getD k' 0).toNat
section
variable {n i k : Nat} {a b : List (List Int)} {L : List Int}
theorem app_part (ha : IsPart n a) (hb : IsPart n b) {i : Nat} (hi : i < (a ++ b).length) : (∃ c, (IsPart n c) ∧ (∀ x y, SB c x y → jjP a b x y) ∧ ∃ j, j < c.length ∧ (a ++ b).getD i [] = c.getD j []) := by
  rw [List.length_append] at hi
  by_cases h : i < a.length
  · exact ⟨a, ha, fun x y h => .inl h, i, h, by simp [List.getD_eq_getElem?_getD, List.getElem?_append, h]⟩
  · exact ⟨b, hb, fun x y h => .inr h, i - a.length, by omega, by rw [List.getD_eq_getElem?_getD, List.getElem?_append_right (by omega), ← List.getD_eq_getElem?_getD]⟩
theorem app_entry (ha : IsPart n a) (hb : IsPart n b) {i k : Nat} (hi : i < (a ++ b).length) (hk : k < ((a ++ b).getD i []).length) : ∃ x : Nat, ((a ++ b).getD i []).getD k 0 = (x : Int) ∧ x < n ∧ ∀ y : Nat, (y : Int) ∈ (a ++ b).getD i [] → jjP a b y x := by
  obtain ⟨c, hc, hj, m, hm, e⟩ := app_part ha hb hi
  rw [e] at hk ⊢
  obtain ⟨x, h1, h2, h3⟩ := hc.entry hm hk
  exact ⟨x, h1, h2, fun y hy => hj _ _ ⟨_, Go.Pm.getD_mem (b := []) hm, hy, h3⟩⟩
theorem app_pos (ha : IsPart n a) (hb : IsPart n b) {i : Nat} (hi : i < (a ++ b).length) : 0 < ((a ++ b).getD i []).length := by
  obtain ⟨c, hc, hj, m, hm, e⟩ := app_part ha hb hi
  rw [e]; exact hc.pos hm
theorem JL.zero (n : Nat) (a b : List (List Int)) : JL n a b 0 1 (idn n) := ⟨.idn n, .idn, fun _ h => absurd h (Nat.not_lt_zero _), fun k' h => by
  have : k' = 0 := by omega
  subst this; rfl⟩
theorem JL.step (ha : IsPart n a) (hb : IsPart n b) (h : JL n a b i k L) (hi : i < (a ++ b).length) (hk : k < ((a ++ b).getD i []).length) :
    JL n a b i (k + 1) (mrg L (L.getD (((a ++ b).getD i []).getD 0 0).toNat 0) (L.getD (((a ++ b).getD i []).getD k 0).toNat 0)) := by
  obtain ⟨x, e1, hx, _⟩ := app_entry ha hb hi (app_pos ha hb hi)
  obtain ⟨y, e2, hy, hr⟩ := app_entry ha hb hi hk
  have hxm : (x : Int) ∈ (a ++ b).getD i [] := by rw [← e1]; exact Go.Pm.row_mem (app_pos ha hb hi)
  have hcg : Cg [] (jjP a b) x y := .base (hr x hxm)
  have hll := h.lbl.len
  have keep : ∀ {i' k' : Nat}, i' < (a ++ b).length → k' < ((a ++ b).getD i' []).length → SL L (((a ++ b).getD i' []).getD 0 0).toNat (((a ++ b).getD i' []).getD k' 0).toNat →
      SL (mrg L (L.getD x 0) (L.getD y 0)) (((a ++ b).getD i' []).getD 0 0).toNat (((a ++ b).getD i' []).getD k' 0).toNat := fun hi' hk' hs => by
    obtain ⟨u, f1, hu, _⟩ := app_entry ha hb hi' (app_pos ha hb hi')
    obtain ⟨v, f2, hv, _⟩ := app_entry ha hb hi' hk'
    rw [f1, f2, Int.toNat_natCast, Int.toNat_natCast] at hs ⊢
    exact hs.mrg hll hu hv _ _
  rw [e1, e2, Int.toNat_natCast, Int.toNat_natCast]
  refine ⟨h.lbl.mrg (h.lbl.rng x hx), h.snd.mrg hll hx hy hcg, fun i' hi' k' hk' => keep (by omega) hk' (h.past i' hi' k' hk'), fun k' hk' => ?_⟩
  by_cases e : k' = k
  · subst e
    rw [e1, e2, Int.toNat_natCast, Int.toNat_natCast]
    exact Go.Pm.SL.made hll hx hy
  · exact keep hi (by omega) (h.row k' (by omega))
theorem JL.next (h : JL n a b i ((a ++ b).getD i []).length L) : JL n a b (i + 1) 1 L := ⟨h.lbl, h.snd, fun i' hi' => by
  by_cases e : i' = i
  · subst e; exact h.row
  · exact h.past i' (by omega), fun k' h => by
  have : k' = 0 := by omega
  subst this; rfl⟩
theorem JL.done (ha : IsPart n a) (hb : IsPart n b) (h : JL n a b (a ++ b).length k L) : partK n (SL L) n = parts (Cg [] (jjP a b)) n := by
  have lt : ∀ {c : List (List Int)} {i j : Nat}, IsPart n c → SB c i j → i < n ∧ j < n := fun hc ⟨k, hk, m1, m2⟩ => by
    have := hc.rng k hk _ m1
    have := hc.rng k hk _ m2
    omega
  have key : ∀ i, i < (a ++ b).length → ∀ x y : Nat, (x : Int) ∈ (a ++ b).getD i [] → (y : Int) ∈ (a ++ b).getD i [] → SL L x y := fun i hi x y hx hy => by
    obtain ⟨k1, h1, e1⟩ := List.getElem_of_mem hx
    obtain ⟨k2, h2, e2⟩ := List.getElem_of_mem hy
    have q1 := h.past i hi k1 h1
    have q2 := h.past i hi k2 h2
    rw [show ((a ++ b).getD i []).getD k1 0 = (x : Int) from (by rw [List.getD_eq_getElem?_getD (l := (a ++ b).getD i []), List.getElem?_eq_getElem h1]; exact e1), Int.toNat_natCast] at q1
    rw [show ((a ++ b).getD i []).getD k2 0 = (y : Int) from (by rw [List.getD_eq_getElem?_getD (l := (a ++ b).getD i []), List.getElem?_eq_getElem h2]; exact e2), Int.toNat_natCast] at q2
    exact (Eq.symm q1).trans q2
  have mem : ∀ c ∈ a ++ b, ∃ i, i < (a ++ b).length ∧ (a ++ b).getD i [] = c := fun c hc => Go.Pm.row_at hc
  refine Go.Pm.partK_congr (fun i j hi hj => Go.Pm.Cg.iff (fun g hg => by cases hg) (fun x y hxy => ?_) h.snd (fun g hg => by cases hg) hi hj) (Nat.le_refl n)
  rcases hxy with ⟨c, hc, m1, m2⟩ | ⟨c, hc, m1, m2⟩
  · obtain ⟨q1, q2⟩ := lt ha ⟨c, hc, m1, m2⟩
    obtain ⟨i, hi, e⟩ := mem c (List.mem_append_left _ hc)
    exact ⟨q1, q2, key i hi x y (by rw [e]; exact m1) (by rw [e]; exact m2)⟩
  · obtain ⟨q1, q2⟩ := lt hb ⟨c, hc, m1, m2⟩
    obtain ⟨i, hi, e⟩ := mem c (List.mem_append_right _ hc)
    exact ⟨q1, q2, key i hi x y (by rw [e]; exact m1) (by rw [e]; exact m2)⟩
end
end Go.Proofs.Ytngpacdhpblpbaa
end
