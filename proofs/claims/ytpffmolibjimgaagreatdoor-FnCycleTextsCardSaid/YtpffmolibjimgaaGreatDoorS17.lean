import Derived.Test.YtpffmolibjimgaaGreatDoorS16
import Derived.Test.YtpffmolibjimgaaGreatDoorS4
import Derived.Test.YtpffmolibjimgaaGreatDoorS3
import Derived.Test.YtpffmolibjimgaaGreatDoorS10
/- Regions of open order: a chain of operations that turn memory, and operations that may come at any time before what needs them; some of these look at what the chain's first operations leave as it is. -/
section
namespace Go.Av
set_option linter.unusedVariables false
set_option linter.unusedSimpArgs false
section
variable {P : Program} {N : Cx} {H : Hp}
variable (P N) in
/-- An operation of the chain; a literal of our own may be one. -/
def gx2VC (d : Nat) (op : Op) (A : Fr) (H : Hp) (K : AV → (Nat → Bool) → Hp → Prop) : Prop :=
  match op with
  | .buildSlice t len ps => (match selOf P t, evParts A ps.toList with
    | some se, some l => Ob ((N.pn d = false ∧ 0 < se.size ∧ len * se.size ≤ 16777216) ∧ fillOk (fun i => some (i * se.size, se.size)) (len * se.size) l)
        (K (.own d 0 se.size len) (· == d) ((H.upd d (.cells (len * se.size) (fillF (fun i => some (i * se.size, se.size)) l (zF se.zero)))).scrub (· == d)))
    | _, _ => False)
  | .nilCheck x => withA (A.ev x) fun a => Ob (ptrOk a = true) (K a (fun _ => false) H)
  | .fieldAddr t x i => withA (A.ev x) fun a => faVC (fldOf P t i) a fun r => K r (fun _ => false) H
  | .indexAddr t x i => withA (A.ev x) fun a => withA (A.ev i) fun b => ixVC (ixOf P t) a b fun r => K r (fun _ => false) H
  | .index t x i => withA (A.ev x) fun a => withA (A.ev i) fun b => chVC (isStr P t) a b fun r => K r (fun _ => false) H
  | op => gxVC P N d op A H K
theorem gx2VC_ok {o : Oper} {A : Fr} {K : AV → (Nat → Bool) → Hp → Prop} (h : gx2VC P N (o.dst.getD 0) o.op A H K) : ∃ p : Nat → Bool, ∀ B : Fr, (∀ x ∈ o.op.operands, B.ev x = A.ev x) → OpV P N o B H fun r A' H' => A' = B.scrub p ∧ K r p H' := by
  unfold gx2VC at h
  split at h
  · rename_i t len ps ho
    split at h
    · rename_i se l hse hl
      refine ⟨(· == o.dst.getD 0), fun B hB => opVC_sound ?_⟩
      have hB' : evParts B ps.toList = some l := by
        rw [evParts_congr fun x hx => hB x (by rw [ho]; simpa [Op.operands] using hx), hl]
      rw [ho]
      simp only [opVC, bsVC, hse, hB']
      exact ⟨h.1, trivial, h.2⟩
    · exact h.elim
  · rename_i x ho
    obtain ⟨a, ha, h⟩ := withA_ok h
    refine ⟨fun _ => false, fun B hB => opVC_sound ?_⟩
    have hx : B.ev x = some a := by rw [hB x (by rw [ho]; simp [Op.operands]), ha]
    rw [ho]
    simp only [opVC, hx, withA, Fr.scrub_none, true_and]
    exact h
  · rename_i t x i ho
    obtain ⟨a, ha, h⟩ := withA_ok h
    refine ⟨fun _ => false, fun B hB => opVC_sound ?_⟩
    have hx : B.ev x = some a := by rw [hB x (by rw [ho]; simp [Op.operands]), ha]
    rw [ho]
    simp only [opVC, hx, withA, Fr.scrub_none, true_and]
    exact h
  · rename_i t x i ho
    obtain ⟨a, ha, h⟩ := withA_ok h
    obtain ⟨b, hb, h⟩ := withA_ok h
    refine ⟨fun _ => false, fun B hB => opVC_sound ?_⟩
    have hx : B.ev x = some a := by rw [hB x (by rw [ho]; simp [Op.operands]), ha]
    have hy : B.ev i = some b := by rw [hB i (by rw [ho]; simp [Op.operands]), hb]
    rw [ho]
    simp only [opVC, hx, hy, withA, Fr.scrub_none, true_and]
    exact h
  · rename_i t x i ho
    obtain ⟨a, ha, h⟩ := withA_ok h
    obtain ⟨b, hb, h⟩ := withA_ok h
    refine ⟨fun _ => false, fun B hB => opVC_sound ?_⟩
    have hx : B.ev x = some a := by rw [hB x (by rw [ho]; simp [Op.operands]), ha]
    have hy : B.ev i = some b := by rw [hB i (by rw [ho]; simp [Op.operands]), hb]
    rw [ho]
    simp only [opVC, hx, hy, withA, Fr.scrub_none, true_and]
    exact h
  · exact gxVC_ok h
def keepK (k : Nat) (Hk H : Hp) : Prop := match k with
  | 0 => True
  | _ + 1 => Hp.le Hk H
variable (P N) in
/-- The chain; behind its first k operations Hk still holds. -/
def linkS (Hk : Hp) (T T1 : List (Option Tmp)) (Q : Fr → Hp → Prop) : Nat → List Oper → Fr → Hp → Prop
  | _, [], A, H => Q A H
  | k, o :: l, A, H => gx2VC P N (o.dst.getD 0) o.op A H fun r p H' => Ob (sameG (A.scrub p) A (match k with
    | 0 => T1
    | _ + 1 => T)) (Ob (keepK k Hk H') (linkS Hk T T1 Q (k - 1) l (putd o.dst r (A.scrub p)) H'))
variable (P N) in
def opsS (fs cs T f1 T1 : List Nat) (k : Nat) (Hk : Hp) (Q : Fr → Hp → Prop) (l : List Oper) (A : Fr) (H : Hp) : Prop :=
  opsQ P N (l.map (·.dst)) (fun A1 => Ob (AllH fun H' => opsQ P N (l.map (·.dst)) (fun A2 => sameG A2 A1 (T1.map some)) (pickL f1 l) A H')
    (Ob (AllH fun X => opsQ P N (l.map (·.dst)) (fun A2 => sameG A2 A1 (T.map some)) (pickL fs l) A (Hk.add X)) (Ob (Hp.le Hk H) (linkS P N Hk (T.map some) (T1.map some) Q k (pickL cs l) A1 H)))) (pickL fs l) A H
theorem linkS_nil (Hk : Hp) (T T1 : List (Option Tmp)) (Q : Fr → Hp → Prop) (k : Nat) (A : Fr) : linkS P N Hk T T1 Q k [] A H = Q A H := by
  cases k <;> rfl
theorem linkS_0 (Hk : Hp) (T T1 : List (Option Tmp)) (Q : Fr → Hp → Prop) (o : Oper) (l : List Oper) (A : Fr) : linkS P N Hk T T1 Q 0 (o :: l) A H = gx2VC P N (o.dst.getD 0) o.op A H fun r p H' => Ob (sameG (A.scrub p) A T1) (Ob True (linkS P N Hk T T1 Q 0 l (putd o.dst r (A.scrub p)) H')) := rfl
theorem linkS_1 (Hk : Hp) (T T1 : List (Option Tmp)) (Q : Fr → Hp → Prop) (o : Oper) (l : List Oper) (A : Fr) : linkS P N Hk T T1 Q 1 (o :: l) A H = gx2VC P N (o.dst.getD 0) o.op A H fun r p H' => Ob (sameG (A.scrub p) A T) (Ob (Hp.le Hk H') (linkS P N Hk T T1 Q 0 l (putd o.dst r (A.scrub p)) H')) := rfl
theorem linkS_2 (Hk : Hp) (T T1 : List (Option Tmp)) (Q : Fr → Hp → Prop) (o : Oper) (l : List Oper) (A : Fr) : linkS P N Hk T T1 Q 2 (o :: l) A H = gx2VC P N (o.dst.getD 0) o.op A H fun r p H' => Ob (sameG (A.scrub p) A T) (Ob (Hp.le Hk H') (linkS P N Hk T T1 Q 1 l (putd o.dst r (A.scrub p)) H')) := rfl
end
attribute [go_sem] opsS linkS_nil linkS_0 linkS_1 linkS_2 gx2VC
end Go.Av
end
/- The laws' dice: how they lie in memory, and what a throw answers. -/
section
namespace Go.Proofs.YtpffmolibjimgaaGreatDoor
open Go.Av
set_option linter.unusedSimpArgs false
set_option linter.unusedVariables false
attribute [local irreducible] AWP CallG Ob Br BrP Go.Av.Sub endQ AOps OpV AC thenA blkA opsVC opVC withA withArgs opsQ opQ CallQ withA2 withArgs2
theorem tmod_in {x n : Int} (hx : 0 ≤ x) (hn : 0 < n) : 0 ≤ x.tmod n ∧ x.tmod n < n := ⟨Int.tmod_nonneg n hx, Int.tmod_lt_of_pos x hn⟩
theorem c3 {f g : Nat → AV} (h0 : f 0 = g 0) (h1 : f 1 = g 1) (h2 : f 2 = g 2) : ∀ i, i < 3 → f i = g i := fun i hi => by
  match i, hi with
  | 0, _ => exact h0
  | 1, _ => exact h1
  | 2, _ => exact h2
end Go.Proofs.YtpffmolibjimgaaGreatDoor
end
section
namespace Go.Proofs.YtpffmolibjimgaaGreatDoor
open Go.Av
set_option linter.unusedSimpArgs false
set_option linter.unusedVariables false
attribute [local irreducible] AWP CallG Ob Br BrP Go.Av.Sub endQ AOps OpV AC thenA blkA opsVC opVC withA withArgs opsQ opQ CallQ withA2 withArgs2

/- PatternOf -/
def pick (s l : List Int) : List Int := l.map fun x => s.getD x.toNat 0
end Go.Proofs.YtpffmolibjimgaaGreatDoor
end
section
namespace Go.Proofs.YtpffmolibjimgaaGreatDoor
open Go.Av
set_option linter.unusedSimpArgs false
set_option linter.unusedVariables false
attribute [local irreducible] AWP CallG Ob Br BrP Go.Av.Sub endQ AOps OpV AC thenA blkA opsVC opVC withA withArgs opsQ opQ CallQ withA2 withArgs2

/- impl.IsValidWord -/
theorem indexFuncI_ok (xs : List Int) (g : FuncId) (c : AV) (p : Int → Bool) (hx : xs.length ≤ 140737488355328)
    (hg : ∀ j, j < xs.length → AC Tryz.prog g [.v (.int .i64 (xs.getD j 0)), c] Hp.emp (fun _ => false) (retV (.v (.bool (p (xs.getD j 0)))))) :
    AC Tryz.prog 85 [ints xs, .clo g 1 (fun _ => c)] Hp.emp (fun _ => false) (retV (.v (.int .i64 (fidx p xs)))) := by
  refine ac_of_awp (N := ⟨_, fun _ => false, fun _ _ => rfl, true⟩) Tryz.func85 rfl (by kernel_rfl) Tryz.ntmps85 (by simp) ?_
  simp only [argsFr, List.zipIdx_cons, List.zipIdx_nil, go_sem]
  repeat' (first | refine awp_seqK fun K hK => ?_ | (refine awp_regionK 66483 rfl ?_; simp only [List.map_cons, List.map_nil]; simp (maxSteps := 1000000) (dsimp := false) (implicitDefEqProofs := false) (disch := omega) only [wrap64, go_sem]) | (refine awp_regionQK 66483 (by kernel_rfl) (by kernel_rfl) (by kernel_rfl) ?_; simp only [List.map_cons, List.map_nil]; simp (maxSteps := 1000000) (dsimp := false) (implicitDefEqProofs := false) (disch := omega) only [wrap64, go_sem]) | refine awp_block ?_ | (refine awp_skip ?_; simp only [go_sem]) | (refine awp_exit ?_; simp only [go_sem]) | (refine awp_ret ?_; try simp only [go_sem]) | (refine awp_condP rfl ?_; try simp only [go_sem]) | (refine BrP.mk (fun h => ?_) (fun h => ?_) <;> try simp (dsimp := false) (disch := omega) only [wrap64]) | (refine Br.mk (fun h => ?_) (fun h => ?_) <;> try simp (dsimp := false) (disch := omega) only [wrap64]) | refine Ob.mk (by first | omega | (intro _ _; rfl) | trivial | (intros; trivial) | assumption | (intro i hi; have h0 : i = 0 := (by omega); subst h0; first | rfl | trivial) | (intro i hi; have h0 : i = 0 ∨ i = 1 := (by omega); rcases h0 with rfl | rfl <;> rfl) | (intro i hi; have h0 : i = 0 ∨ i = 1 ∨ i = 2 := (by omega); rcases h0 with rfl | rfl | rfl <;> rfl)) ?_ | apply_assumption -exfalso -symm)
  all_goals (first | (show endQ _ _ _ _ _ _ _; (repeat (rename (∀ (A : Fr) (H : Hp), AWP _ _ _ _ A H → _) => hK; clear hK)); (repeat (rename (Fr → Hp → Prop) => K; clear K))) | (show Exists _; (repeat (rename (∀ (A : Fr) (H : Hp), AWP _ _ _ _ A H → _) => hK; clear hK)); (repeat (rename (Fr → Hp → Prop) => K; clear K))) | skip)
  refine awp_loop (ι := Nat) (fun k => [(8, .v (.int .i64 (k))), (7, .v (.int .i64 (xs.length))), (0, .list false 1 (xs).length (cM iv 0 (xs))), (1, .clo g 1 (fun _ => c))]) (fun k => Hp.emp) (fun k => k ≤ xs.length ∧ ∀ j, j < k → p (xs.getD j 0) = false) (fun k => xs.length - k) 0 ?_ (Sub.toL (by simp only [go_sem] <;> first | trivial | (simp only [Option.some.injEq, AV.v.injEq, AV.own.injEq, AV.list.injEq, Value.int.injEq, Value.bool.injEq, true_and, and_true]; first | omega | (simp; done)) | (simp; done) | (simp; omega)) (by (repeat' (first | exact Hp.le_emp _ | exact Hp.le_refl _ | refine Hp.le_upd ?_ ?_)); all_goals (first | rfl | (simp only [go_sem]; first | rfl | (refine cellsE ?_ ?_ <;> (simp)) | (simp))))) ?_
  · exact ⟨Nat.zero_le _, fun j h => absurd h (Nat.not_lt_zero _)⟩
  intro k hk
  repeat' (first | refine awp_seqK fun K hK => ?_ | (refine awp_regionK 66483 rfl ?_; simp only [List.map_cons, List.map_nil]; simp (maxSteps := 1000000) (dsimp := false) (implicitDefEqProofs := false) (disch := omega) only [wrap64, go_sem]) | (refine awp_regionQK 66483 (by kernel_rfl) (by kernel_rfl) (by kernel_rfl) ?_; simp only [List.map_cons, List.map_nil]; simp (maxSteps := 1000000) (dsimp := false) (implicitDefEqProofs := false) (disch := omega) only [wrap64, go_sem]) | refine awp_block ?_ | (refine awp_skip ?_; simp only [go_sem]) | (refine awp_exit ?_; simp only [go_sem]) | (refine awp_ret ?_; try simp only [go_sem]) | (refine awp_condP rfl ?_; try simp only [go_sem]) | (refine BrP.mk (fun h => ?_) (fun h => ?_) <;> try simp (dsimp := false) (disch := omega) only [wrap64]) | (refine Br.mk (fun h => ?_) (fun h => ?_) <;> try simp (dsimp := false) (disch := omega) only [wrap64]) | refine Ob.mk (by first | omega | (intro _ _; rfl) | trivial | (intros; trivial) | assumption | (intro i hi; have h0 : i = 0 := (by omega); subst h0; first | rfl | trivial) | (intro i hi; have h0 : i = 0 ∨ i = 1 := (by omega); rcases h0 with rfl | rfl <;> rfl) | (intro i hi; have h0 : i = 0 ∨ i = 1 ∨ i = 2 := (by omega); rcases h0 with rfl | rfl | rfl <;> rfl)) ?_ | ((first | (refine cV (hac := hg k (by omega)) (hK := ?_)) | (refine cQV (hac := hg k (by omega)) (hK := ?_))); simp (maxSteps := 1000000) (dsimp := false) (implicitDefEqProofs := false) (disch := omega) only [wrap64, go_sem]) | apply_assumption -exfalso -symm)
  all_goals (first | (show endQ _ _ _ _ _ _ _; (repeat (rename (∀ (A : Fr) (H : Hp), AWP _ _ _ _ A H → _) => hK; clear hK)); (repeat (rename (Fr → Hp → Prop) => K; clear K))) | (show Exists _; (repeat (rename (∀ (A : Fr) (H : Hp), AWP _ _ _ _ A H → _) => hK; clear hK)); (repeat (rename (Fr → Hp → Prop) => K; clear K))) | skip)
  · exact end_retN rfl rfl (fidx_hit p xs 0 k (by omega) hk.2 ‹_›).symm
  · refine ⟨k + 1, ?_, ?_, Sub.toL (by simp only [go_sem] <;> first | trivial | (simp only [Option.some.injEq, AV.v.injEq, AV.own.injEq, AV.list.injEq, Value.int.injEq, Value.bool.injEq, true_and, and_true]; first | omega | (simp; done)) | (simp; done) | (simp; omega)) (by (repeat' (first | exact Hp.le_emp _ | exact Hp.le_refl _ | refine Hp.le_upd ?_ ?_)); all_goals (first | rfl | (simp only [go_sem]; first | rfl | (refine cellsE ?_ ?_ <;> (simp)) | (simp))))⟩
    · refine ⟨by omega, fun j hj => ?_⟩
      by_cases h' : j = k
      · subst h'; assumption
      · exact hk.2 j (by omega)
    · omega
  · exact end_retN rfl rfl (fidx_none p xs 0 fun j hj => hk.2 j (by omega)).symm

theorem containsFuncI_ok (xs : List Int) (g : FuncId) (c : AV) (p : Int → Bool) (hx : xs.length ≤ 140737488355328)
    (hg : ∀ j, j < xs.length → AC Tryz.prog g [.v (.int .i64 (xs.getD j 0)), c] Hp.emp (fun _ => false) (retV (.v (.bool (p (xs.getD j 0)))))) :
    AC Tryz.prog 50 [ints xs, .clo g 1 (fun _ => c)] Hp.emp (fun _ => false) (retV (.v (.bool (xs.any p)))) := by
  refine ac_of_awp (N := ⟨_, fun _ => false, fun _ _ => rfl, true⟩) Tryz.func50 rfl (by kernel_rfl) Tryz.ntmps50 (by simp) ?_
  simp only [argsFr, List.zipIdx_cons, List.zipIdx_nil, go_sem]
  repeat' (first | refine awp_seqK fun K hK => ?_ | (refine awp_regionK 19 rfl ?_; simp only [List.map_cons, List.map_nil]; simp (maxSteps := 1000000) (dsimp := false) (implicitDefEqProofs := false) (disch := omega) only [wrap64, go_sem]) | (refine awp_regionQK 19 (by kernel_rfl) (by kernel_rfl) (by kernel_rfl) ?_; simp only [List.map_cons, List.map_nil]; simp (maxSteps := 1000000) (dsimp := false) (implicitDefEqProofs := false) (disch := omega) only [wrap64, go_sem]) | refine awp_block ?_ | (refine awp_skip ?_; simp only [go_sem]) | (refine awp_exit ?_; simp only [go_sem]) | (refine awp_ret ?_; try simp only [go_sem]) | (refine awp_condP rfl ?_; try simp only [go_sem]) | (refine BrP.mk (fun h => ?_) (fun h => ?_) <;> try simp (dsimp := false) (disch := omega) only [wrap64]) | (refine Br.mk (fun h => ?_) (fun h => ?_) <;> try simp (dsimp := false) (disch := omega) only [wrap64]) | refine Ob.mk (by first | omega | (intro _ _; rfl) | trivial | (intros; trivial) | assumption | (intro i hi; have h0 : i = 0 := (by omega); subst h0; first | rfl | trivial) | (intro i hi; have h0 : i = 0 ∨ i = 1 := (by omega); rcases h0 with rfl | rfl <;> rfl) | (intro i hi; have h0 : i = 0 ∨ i = 1 ∨ i = 2 := (by omega); rcases h0 with rfl | rfl | rfl <;> rfl)) ?_ | ((first | ((first | refine atF (f := 85) ?_ | refine atQ (f := 85) ?_); (first | (refine cV (hac := indexFuncI_ok xs g c p hx hg) (hK := ?_)) | (refine cQV (hac := indexFuncI_ok xs g c p hx hg) (hK := ?_))))); simp (maxSteps := 1000000) (dsimp := false) (implicitDefEqProofs := false) (disch := omega) only [wrap64, go_sem]) | apply_assumption -exfalso -symm)
  all_goals (first | (show endQ _ _ _ _ _ _ _; (repeat (rename (∀ (A : Fr) (H : Hp), AWP _ _ _ _ A H → _) => hK; clear hK)); (repeat (rename (Fr → Hp → Prop) => K; clear K))) | (show Exists _; (repeat (rename (∀ (A : Fr) (H : Hp), AWP _ _ _ _ A H → _) => hK; clear hK)); (repeat (rename (Fr → Hp → Prop) => K; clear K))) | skip)
  refine end_retV' rfl rfl ?_
  congr 2
  have := fidx_nonneg p xs
  cases hh : xs.any p
  · simp [hh] at this; simp; omega
  · simp [hh] at this; simpa using this

end Go.Proofs.YtpffmolibjimgaaGreatDoor
end
