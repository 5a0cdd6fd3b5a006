import Derived.Test.YtfgblelbhlpfjaaT6
import Derived.Test.YtfgblelbhlpfjaaP1
namespace Go.Proofs.Ytfgblelbhlpfjaa
open Go.Av
set_option linter.unusedSimpArgs false
set_option linter.unusedVariables false
attribute [local irreducible] AWP CallG Ob Br BrP Go.Av.Sub endQ AOps OpV AC thenA blkA opsVC opVC withA withArgs opsQ opQ CallQ withA2 withArgs2

open Go.Plain
def nats (p : List Int) : List Nat := p.map Int.toNat
def inB (p : List Int) (k : Nat) : Prop := ∀ j, j < k → 0 ≤ p.getD j 0 ∧ p.getD j 0 ≤ (p.length : Int) - 1

theorem nats_lt {p : List Int} {k : Nat} (hk : k ≤ p.length) (h : inB p k) : ∀ x ∈ nats (p.take k), x < p.length := by
  intro x hx
  simp only [nats, List.mem_map] at hx
  obtain ⟨y, hy, rfl⟩ := hx
  obtain ⟨j, hj, rfl⟩ := mem_getD.1 hy
  have hj' : j < k := by simp at hj; omega
  have e : (p.take k).getD j 0 = p.getD j 0 := by simp [hj']
  have := h j hj'
  rw [e]; omega

theorem mask_step {p : List Int} {k : Nat} (hk : k < p.length) : mask (nats (p.take (k + 1))) = mask (nats (p.take k)) ||| 2 ^ (p.getD k 0).toNat := by
  rw [← mask_snoc]
  congr 1
  rw [List.take_succ_eq_append_getElem hk, nats, List.map_append]
  have e : p.getD k 0 = p[k] := by simp [hk]
  rw [e]; rfl

theorem isPerm_iff (p : List Int) (h1 : 1 ≤ p.length ∧ p.length ≤ 20) (hb : inB p p.length) : mask (nats p) = 2 ^ p.length - 1 ↔ isPerm p := by
  have hlt := nats_lt (Nat.le_refl _) hb
  rw [List.take_length] at hlt
  rw [mask_full hlt, ← nodup_iff_all (by simp [nats]) hlt]
  constructor
  · intro hn
    refine ⟨h1, fun j hj => ⟨hb j hj, fun hm => ?_⟩⟩
    obtain ⟨i, hi, e⟩ := mem_getD.1 hm
    have hi' : i < j := by simp at hi; omega
    have e2 : p[i]'(by omega) = p[j] := by
      have : (p.take j).getD i 0 = p[i]'(by omega) := by
        have : i < p.length := by omega
        simp [hi', this]
      rw [← this, e]; simp [hj]
    have := List.pairwise_iff_getElem.1 hn i j (by simp [nats]; omega) (by simp [nats]; omega) hi'
    exact this (by simp [nats, e2])
  · intro h
    refine List.pairwise_iff_getElem.2 fun i j hi hj hij => ?_
    simp only [nats, List.length_map] at hi hj
    simp only [nats, List.getElem_map]
    intro e
    have b1 := hb i hi
    have b2 := hb j hj
    have e1 : p.getD i 0 = p[i] := by simp [hi]
    have e2 : p.getD j 0 = p[j] := by simp [hj]
    refine (h.2 j hj).2 (mem_getD.2 ⟨i, by simp; omega, ?_⟩)
    have e3 : (p.take j).getD i 0 = p[i] := by simp [hij, hi]
    rw [e3, e2]
    omega

theorem shlE (x : Int) (h : 0 ≤ x ∧ x < 62) : IntKind.i64.wrap (1 * 2 ^ min x.toNat 64) = ((2 ^ x.toNat : Nat) : Int) := by
  have := shl_nat x.toNat (by omega)
  have e : ((x.toNat : Nat) : Int).toNat = x.toNat := by omega
  rw [e] at this
  exact this
theorem stepE {p : List Int} {k : Nat} (hk : k < p.length) (hp : p.length ≤ 20) (h : inB p k) (hx : 0 ≤ p.getD k 0 ∧ p.getD k 0 ≤ (p.length : Int) - 1) :
    IntKind.i64.wrap ((BitVec.ofInt IntKind.i64.bits ((mask (nats (p.take k)) : Nat) : Int) ||| BitVec.ofInt IntKind.i64.bits (IntKind.i64.wrap (1 * 2 ^ min (p.getD k 0).toNat 64))).toNat : Int) = ((mask (nats (p.take (k + 1))) : Nat) : Int) := by
  have b1 : mask (nats (p.take k)) < 2 ^ p.length := mask_lt (nats_lt (Nat.le_of_lt hk) h)
  have b2 : 2 ^ p.length ≤ 2 ^ 20 := Nat.pow_le_pow_right (by omega) hp
  have b3 : 2 ^ (p.getD k 0).toNat ≤ 2 ^ 20 := Nat.pow_le_pow_right (by omega) (by omega)
  rw [shlE _ (by omega), or_nat _ _ (by omega) (by omega), mask_step hk]
theorem fullE (n : Nat) (h : n ≤ 20) : IntKind.i64.wrap (IntKind.i64.wrap (1 * 2 ^ min n 64) - 1) = ((2 ^ n - 1 : Nat) : Int) := by
  have := shlE (n : Int) (by omega)
  have e : ((n : Nat) : Int).toNat = n := by omega
  rw [e] at this
  have b : 2 ^ n ≤ 2 ^ 20 := Nat.pow_le_pow_right (by omega) h
  have b2 : 0 < 2 ^ n := Nat.two_pow_pos n
  rw [this]
  generalize 2 ^ n = m at b b2
  rw [IntKind.wrap_i64]; omega

theorem implIsPermutation_ok (p : List Int) : AC Try.prog 163 [ints p] Hp.emp (fun _ => false) (retV (.v (.bool (decide (isPerm p))))) := by
  refine ac_of_awp (N := ⟨_, fun _ => false, fun _ _ => rfl⟩) Try.func163 rfl (by kernel_rfl) Try.ntmps163 (by simp) ?_
  simp only [argsFr, List.zipIdx_cons, List.zipIdx_nil, go_sem, ints, intss, pz, iv, sv, bv, Nat.reduceAdd]
  repeat' (first | refine awp_seqK fun K hK => ?_ | (refine awp_regionK 2113069 rfl ?_; simp only [List.map_cons, List.map_nil]; simp (maxSteps := 1000000) (dsimp := false) (implicitDefEqProofs := false) (disch := omega) only [wrap64, go_sem, ints, intss, pz, iv, bv, sv, Nat.reducePow, Nat.reduceDiv, Nat.reduceMod, ↓reduceIte, Nat.reduceEqDiff, Nat.reduceAdd, reduceCtorEq, Nat.reduceBEq, Nat.reduceLT]) | (refine awp_regionQK 2113069 (by kernel_rfl) (by kernel_rfl) (by kernel_rfl) ?_; simp only [List.map_cons, List.map_nil]; simp (maxSteps := 1000000) (dsimp := false) (implicitDefEqProofs := false) (disch := omega) only [wrap64, go_sem, ints, intss, pz, iv, bv, sv, Nat.reducePow, Nat.reduceDiv, Nat.reduceMod, ↓reduceIte, Nat.reduceEqDiff, Nat.reduceAdd, reduceCtorEq, Nat.reduceBEq, Nat.reduceLT]) | refine awp_block ?_ | (refine awp_skip ?_; simp only [go_sem, ints, intss, pz, iv, bv, sv, Nat.reducePow, Nat.reduceDiv, Nat.reduceMod, ↓reduceIte, Nat.reduceEqDiff, Nat.reduceAdd, reduceCtorEq, Nat.reduceBEq, Nat.reduceLT]) | (refine awp_exit ?_; simp only [go_sem, ints, intss, pz, iv, bv, sv, Nat.reducePow, Nat.reduceDiv, Nat.reduceMod, ↓reduceIte, Nat.reduceEqDiff, Nat.reduceAdd, reduceCtorEq, Nat.reduceBEq, Nat.reduceLT]) | (refine awp_ret ?_; try simp only [go_sem, ints, intss, pz, iv, bv, sv, Nat.reducePow, Nat.reduceDiv, Nat.reduceMod, ↓reduceIte, Nat.reduceEqDiff, Nat.reduceAdd, reduceCtorEq, Nat.reduceBEq, Nat.reduceLT]) | (refine awp_condP rfl ?_; try simp only [go_sem, ints, intss, pz, iv, bv, sv, Nat.reducePow, Nat.reduceDiv, Nat.reduceMod, ↓reduceIte, Nat.reduceEqDiff, Nat.reduceAdd, reduceCtorEq, Nat.reduceBEq, Nat.reduceLT]) | (refine BrP.mk (fun h => ?_) (fun h => ?_) <;> try simp (dsimp := false) (disch := omega) only [wrap64]) | (refine Br.mk (fun h => ?_) (fun h => ?_) <;> try simp (dsimp := false) (disch := omega) only [wrap64]) | refine Ob.mk (by first | omega | (intro _ _; rfl) | trivial | (intros; trivial) | assumption | (intro i hi; have h0 : i = 0 ∨ i = 1 := (by omega); rcases h0 with rfl | rfl <;> rfl) | (intro i hi; have h0 : i = 0 ∨ i = 1 ∨ i = 2 := (by omega); rcases h0 with rfl | rfl | rfl <;> rfl)) ?_ | ((first | ((first | refine atF (f := 96) ?_ | refine atQ (f := 96) ?_); (first | (refine cV (hac := within_ok _ _ _) (hK := ?_)) | (refine cQV (hac := within_ok _ _ _) (hK := ?_)))) | ((first | refine atF (f := 98) ?_ | refine atQ (f := 98) ?_); (first | (refine cV (hac := length_ok _) (hK := ?_)) | (refine cQV (hac := length_ok _) (hK := ?_))))); simp (maxSteps := 1000000) (dsimp := false) (implicitDefEqProofs := false) (disch := omega) only [wrap64, go_sem, ints, intss, pz, iv, bv, sv, Nat.reducePow, Nat.reduceDiv, Nat.reduceMod, ↓reduceIte, Nat.reduceEqDiff, Nat.reduceAdd, reduceCtorEq, Nat.reduceBEq, Nat.reduceLT]) | apply_assumption -exfalso -symm)
  all_goals (first | (show endQ _ _ _ _ _ _ _; (repeat (rename (∀ (A : Fr) (H : Hp), AWP _ _ _ _ A H → _) => hK; clear hK)); (repeat (rename (Fr → Hp → Prop) => K; clear K))) | (show Exists _; (repeat (rename (∀ (A : Fr) (H : Hp), AWP _ _ _ _ A H → _) => hK; clear hK)); (repeat (rename (Fr → Hp → Prop) => K; clear K))) | skip)
  · have h1 : 1 ≤ p.length ∧ p.length ≤ 20 := by omega
    refine awp_loop (ι := Nat) (fun k => [(12, .v (.int .i64 (k))), (11, .v (.int .i64 (p.length))), (10, .list false 1 (p).length (cM iv 0 (p))), (3, .v (.int .i64 ((mask (nats (p.take k)) : Nat)))), (0, .list false 1 (p).length (cM iv 0 (p)))]) (fun k => Hp.emp) (fun k => k ≤ p.length ∧ inB p k) (fun k => p.length - k) 0 ?_ (Sub.toL (by simp only [go_sem, ints, intss, pz, iv, bv, sv, Nat.reducePow, Nat.reduceDiv, Nat.reduceMod, ↓reduceIte, Nat.reduceEqDiff, Nat.reduceAdd, reduceCtorEq, Nat.reduceBEq, Nat.reduceLT] <;> first | trivial | (simp only [Option.some.injEq, AV.v.injEq, AV.own.injEq, AV.list.injEq, Value.int.injEq, Value.bool.injEq, true_and, and_true]; first | omega | (simp [mask, nats]; done)) | (simp [mask, nats]; done) | (simp [mask, nats]; omega)) (by (repeat' (first | exact Hp.le_emp _ | exact Hp.le_refl _ | refine Hp.le_upd ?_ ?_)); all_goals (first | rfl | (simp only [go_sem, ints, intss, pz, iv, bv, sv, Nat.reducePow, Nat.reduceDiv, Nat.reduceMod, ↓reduceIte, Nat.reduceEqDiff, Nat.reduceAdd, reduceCtorEq, Nat.reduceBEq, Nat.reduceLT]; first | rfl | (refine cellsE ?_ ?_ <;> (simp [mask, nats])) | (simp [mask, nats]))))) ?_
    · exact ⟨Nat.zero_le _, fun j h => absurd h (Nat.not_lt_zero _)⟩
    intro k hk
    repeat' (first | refine awp_seqK fun K hK => ?_ | (refine awp_regionK 2113069 rfl ?_; simp only [List.map_cons, List.map_nil]; simp (maxSteps := 1000000) (dsimp := false) (implicitDefEqProofs := false) (disch := omega) only [wrap64, go_sem, ints, intss, pz, iv, bv, sv, Nat.reducePow, Nat.reduceDiv, Nat.reduceMod, ↓reduceIte, Nat.reduceEqDiff, Nat.reduceAdd, reduceCtorEq, Nat.reduceBEq, Nat.reduceLT]) | (refine awp_regionQK 2113069 (by kernel_rfl) (by kernel_rfl) (by kernel_rfl) ?_; simp only [List.map_cons, List.map_nil]; simp (maxSteps := 1000000) (dsimp := false) (implicitDefEqProofs := false) (disch := omega) only [wrap64, go_sem, ints, intss, pz, iv, bv, sv, Nat.reducePow, Nat.reduceDiv, Nat.reduceMod, ↓reduceIte, Nat.reduceEqDiff, Nat.reduceAdd, reduceCtorEq, Nat.reduceBEq, Nat.reduceLT]) | refine awp_block ?_ | (refine awp_skip ?_; simp only [go_sem, ints, intss, pz, iv, bv, sv, Nat.reducePow, Nat.reduceDiv, Nat.reduceMod, ↓reduceIte, Nat.reduceEqDiff, Nat.reduceAdd, reduceCtorEq, Nat.reduceBEq, Nat.reduceLT]) | (refine awp_exit ?_; simp only [go_sem, ints, intss, pz, iv, bv, sv, Nat.reducePow, Nat.reduceDiv, Nat.reduceMod, ↓reduceIte, Nat.reduceEqDiff, Nat.reduceAdd, reduceCtorEq, Nat.reduceBEq, Nat.reduceLT]) | (refine awp_ret ?_; try simp only [go_sem, ints, intss, pz, iv, bv, sv, Nat.reducePow, Nat.reduceDiv, Nat.reduceMod, ↓reduceIte, Nat.reduceEqDiff, Nat.reduceAdd, reduceCtorEq, Nat.reduceBEq, Nat.reduceLT]) | (refine awp_condP rfl ?_; try simp only [go_sem, ints, intss, pz, iv, bv, sv, Nat.reducePow, Nat.reduceDiv, Nat.reduceMod, ↓reduceIte, Nat.reduceEqDiff, Nat.reduceAdd, reduceCtorEq, Nat.reduceBEq, Nat.reduceLT]) | (refine BrP.mk (fun h => ?_) (fun h => ?_) <;> try simp (dsimp := false) (disch := omega) only [wrap64]) | (refine Br.mk (fun h => ?_) (fun h => ?_) <;> try simp (dsimp := false) (disch := omega) only [wrap64]) | refine Ob.mk (by first | omega | (intro _ _; rfl) | trivial | (intros; trivial) | assumption | (intro i hi; have h0 : i = 0 ∨ i = 1 := (by omega); rcases h0 with rfl | rfl <;> rfl) | (intro i hi; have h0 : i = 0 ∨ i = 1 ∨ i = 2 := (by omega); rcases h0 with rfl | rfl | rfl <;> rfl)) ?_ | ((first | ((first | refine atF (f := 96) ?_ | refine atQ (f := 96) ?_); (first | (refine cV (hac := within_ok _ _ _) (hK := ?_)) | (refine cQV (hac := within_ok _ _ _) (hK := ?_)))) | ((first | refine atF (f := 98) ?_ | refine atQ (f := 98) ?_); (first | (refine cV (hac := length_ok _) (hK := ?_)) | (refine cQV (hac := length_ok _) (hK := ?_))))); simp (maxSteps := 1000000) (dsimp := false) (implicitDefEqProofs := false) (disch := omega) only [wrap64, go_sem, ints, intss, pz, iv, bv, sv, Nat.reducePow, Nat.reduceDiv, Nat.reduceMod, ↓reduceIte, Nat.reduceEqDiff, Nat.reduceAdd, reduceCtorEq, Nat.reduceBEq, Nat.reduceLT]) | apply_assumption -exfalso -symm)
    all_goals (first | (show endQ _ _ _ _ _ _ _; (repeat (rename (∀ (A : Fr) (H : Hp), AWP _ _ _ _ A H → _) => hK; clear hK)); (repeat (rename (Fr → Hp → Prop) => K; clear K))) | (show Exists _; (repeat (rename (∀ (A : Fr) (H : Hp), AWP _ _ _ _ A H → _) => hK; clear hK)); (repeat (rename (Fr → Hp → Prop) => K; clear K))) | skip)
    · rw [stepE (by omega) h1.2 hk.2 ‹_›]
      refine ⟨k + 1, ?_, ?_, Sub.toL (by simp only [go_sem, ints, intss, pz, iv, bv, sv, Nat.reducePow, Nat.reduceDiv, Nat.reduceMod, ↓reduceIte, Nat.reduceEqDiff, Nat.reduceAdd, reduceCtorEq, Nat.reduceBEq, Nat.reduceLT] <;> first | trivial | (simp only [Option.some.injEq, AV.v.injEq, AV.own.injEq, AV.list.injEq, Value.int.injEq, Value.bool.injEq, true_and, and_true]; first | omega | (simp; done)) | (simp; done) | (simp; omega)) (by (repeat' (first | exact Hp.le_emp _ | exact Hp.le_refl _ | refine Hp.le_upd ?_ ?_)); all_goals (first | rfl | (simp only [go_sem, ints, intss, pz, iv, bv, sv, Nat.reducePow, Nat.reduceDiv, Nat.reduceMod, ↓reduceIte, Nat.reduceEqDiff, Nat.reduceAdd, reduceCtorEq, Nat.reduceBEq, Nat.reduceLT]; first | rfl | (refine cellsE ?_ ?_ <;> (simp)) | (simp))))⟩
      · refine ⟨by omega, fun j hj => ?_⟩
        by_cases h' : j = k
        · subst h'; assumption
        · exact hk.2 j (by omega)
      · omega
    · refine end_retB rfl rfl ?_
      simp only [Bool.false_eq_true, false_iff]
      intro h2; exact ‹¬ (_ ∧ _)› (h2.2 k (by omega)).1
    · have e : k = p.length := by omega
      subst e
      refine end_retB rfl rfl ?_
      rw [fullE _ h1.2, List.take_length, decide_eq_true_eq, ← isPerm_iff p h1 hk.2]
      omega
  · refine end_retB rfl rfl ?_
    simp only [Bool.false_eq_true, false_iff]
    intro h2; have := h2.1; omega
end Go.Proofs.Ytfgblelbhlpfjaa
