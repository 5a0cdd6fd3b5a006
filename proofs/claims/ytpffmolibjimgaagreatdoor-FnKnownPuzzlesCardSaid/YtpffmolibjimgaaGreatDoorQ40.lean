import Derived.Test.YtpffmolibjimgaaGreatDoorQ39
import Derived.Test.YtpffmolibjimgaaGreatDoorQ37
import Derived.Test.YtpffmolibjimgaaGreatDoorQ17
import Derived.Test.YtpffmolibjimgaaGreatDoorQ4
import Derived.Laws.Strings
import Derived.Test.YtpffmolibjimgaaGreatDoorQ3
/- StateCount: both texts multiply the sizes of the orbits. -/
section
namespace Go.Proofs.YtpffmolibjimgaaGreatDoor
open Go.Av
set_option linter.unusedSimpArgs false
set_option linter.unusedVariables false
attribute [local irreducible] AWP CallG Ob Br BrP Go.Av.Sub endQ AOps OpV AC thenA blkA opsVC opVC withA withArgs opsQ opQ CallQ withA2 withArgs2
open Go.Pm (Pm comp invp idn img Ch fixB fact)

/-- The product of the first m orbit sizes. -/
def prO (n : Nat) (C : Ch) : Nat → Nat
  | 0 => 1
  | m + 1 => prO n C m * C.cnt n m
theorem prO_ord (n : Nat) (C : Ch) : ∀ k m, m + k = n → prO n C m * C.ord n k m = prO n C n
  | 0, m, h => by obtain rfl : m = n := by omega
                  simp [Ch.ord]
  | k + 1, m, h => by
    have := prO_ord n C k (m + 1) (by omega)
    rw [← this]
    simp [Ch.ord, prO, Nat.mul_assoc]
theorem cnt_pos {n : Nat} {C : Ch} (w : C.WF n) {i : Nat} (hi : i < n) : 1 ≤ C.cnt n i := by
  unfold Ch.cnt
  refine List.countP_pos_iff.2 ⟨i, by simpa using hi, ?_⟩
  rw [w.t0 i hi]; rfl
theorem ord_pos {n : Nat} {C : Ch} (w : C.WF n) : ∀ k m, m + k = n → 1 ≤ C.ord n k m
  | 0, _, _ => by simp [Ch.ord]
  | k + 1, m, h => Nat.mul_pos (cnt_pos w (by omega)) (ord_pos w k (m + 1) (by omega))
theorem prO_n (n : Nat) (C : Ch) : prO n C n = C.ord n n 0 := by
  have := prO_ord n C n 0 (by omega)
  simpa [prO] using this.symm
theorem prO_le {n : Nat} {C : Ch} (w : C.WF n) (hn : n ≤ 20) {m : Nat} (hm : m ≤ n) : prO n C m ≤ 2432902008176640000 := by
  have h1 := prO_ord n C (n - m) m (by omega)
  have h2 := ord_pos w (n - m) m (by omega)
  have h3 := Ch.ord_le w n 0 (by omega)
  have h4 := Go.Pm.fact_mono hn
  rw [Go.Pm.fact_20] at h4
  rw [prO_n] at h1
  have h5 : prO n C m * 1 ≤ prO n C m * C.ord n (n - m) m := Nat.mul_le_mul_left _ h2
  omega
theorem orb_cnt (n : Nat) (C : Ch) (i : Nat) : (orb (C.T i) n).length = C.cnt n i := by
  unfold orb Ch.cnt
  rw [List.length_map, List.countP_eq_length_filter]
theorem order_ok (n : Nat) (C : Ch) (hn : n ≤ 20) (hw : C.WF n) : AC Tryz.prog 66 [chI n C, .v (.int .i64 (0))] Hp.emp (fun _ => false) (retV (.v (.int .i64 (prO n C n)))) := by
  unfold chI
  refine ac_of_awp (N := ⟨_, fun _ => false, fun _ _ => rfl, true⟩) Tryz.func66 rfl (by kernel_rfl) Tryz.ntmps66 (by simp) ?_
  simp only [argsFr, List.zipIdx_cons, List.zipIdx_nil, go_sem]
  repeat' (first | refine awp_seqK fun K hK => ?_ | (refine awp_regionK 8307 rfl ?_; simp only [List.map_cons, List.map_nil]; simp (maxSteps := 1000000) (dsimp := false) (implicitDefEqProofs := false) (disch := omega) only [wrap64, go_sem]) | (refine awp_regionQK 8307 (by kernel_rfl) (by kernel_rfl) (by kernel_rfl) ?_; simp only [List.map_cons, List.map_nil]; simp (maxSteps := 1000000) (dsimp := false) (implicitDefEqProofs := false) (disch := omega) only [wrap64, go_sem]) | refine awp_block ?_ | (refine awp_skip ?_; simp only [go_sem]) | (refine awp_exit ?_; simp only [go_sem]) | (refine awp_ret ?_; try simp only [go_sem]) | (refine awp_condP rfl ?_; try simp only [go_sem]) | (refine BrP.mk (fun h => ?_) (fun h => ?_) <;> try simp (dsimp := false) (disch := omega) only [wrap64]) | (refine Br.mk (fun h => ?_) (fun h => ?_) <;> try simp (dsimp := false) (disch := omega) only [wrap64]) | refine Ob.mk (by first | omega | (intro _ _; rfl) | trivial | (intros; trivial) | assumption | (intro i hi; have h0 : i = 0 := (by omega); subst h0; first | rfl | trivial) | (intro i hi; have h0 : i = 0 ∨ i = 1 := (by omega); rcases h0 with rfl | rfl <;> rfl) | (intro i hi; have h0 : i = 0 ∨ i = 1 ∨ i = 2 := (by omega); rcases h0 with rfl | rfl | rfl <;> rfl)) ?_ | apply_assumption -exfalso -symm)
  all_goals (first | (show endQ _ _ _ _ _ _ _; (repeat (rename (∀ (A : Fr) (H : Hp), AWP _ _ _ _ A H → _) => hK; clear hK)); (repeat (rename (Fr → Hp → Prop) => K; clear K))) | (show Exists _; (repeat (rename (∀ (A : Fr) (H : Hp), AWP _ _ _ _ A H → _) => hK; clear hK)); (repeat (rename (Fr → Hp → Prop) => K; clear K))) | skip)
  refine awp_loop (ι := Nat) (fun k => [(6, .v (.int .i64 (k))), (5, .v (.int .i64 (prO n C k))), (0, chI n C)]) (fun k => Hp.emp) (fun k => k ≤ n) (fun k => n - k) 0 (Nat.zero_le _) (Sub.toL (by simp only [go_sem] <;> first | trivial | (simp only [Option.some.injEq, AV.v.injEq, AV.own.injEq, AV.list.injEq, Value.int.injEq, Value.bool.injEq, true_and, and_true]; first | omega | (simp [chI, prO]; done)) | (simp [chI, prO]; done) | (simp [chI, prO]; omega)) (Hp.le_emp _)) ?_
  intro k hk
  unfold chI
  have hT : ∀ y t, y < n → C.T k y = some t → k < n → 0 < t.length := fun y t _ ht hkn => by have := (hw.t1 k y t hkn ht).1.1; omega
  have hc := orb_cnt n C k
  have hp1 := prO_le hw hn hk
  have hp2 := fun h : k + 1 ≤ n => prO_le hw hn h
  have hp3 : prO n C (k + 1) = prO n C k * C.cnt n k := rfl
  repeat' (first | refine awp_seqK fun K hK => ?_ | (refine awp_regionK 8307 rfl ?_; simp only [List.map_cons, List.map_nil]; simp (maxSteps := 1000000) (dsimp := false) (implicitDefEqProofs := false) (disch := omega) only [wrap64, go_sem, rowF_app]) | (refine awp_regionQK 8307 (by kernel_rfl) (by kernel_rfl) (by kernel_rfl) ?_; simp only [List.map_cons, List.map_nil]; simp (maxSteps := 1000000) (dsimp := false) (implicitDefEqProofs := false) (disch := omega) only [wrap64, go_sem, rowF_app]) | refine awp_block ?_ | (refine awp_skip ?_; simp only [go_sem, rowF_app]) | (refine awp_exit ?_; simp only [go_sem, rowF_app]) | (refine awp_ret ?_; try simp only [go_sem, rowF_app]) | (refine awp_condP rfl ?_; try simp only [go_sem, rowF_app]) | (refine BrP.mk (fun h => ?_) (fun h => ?_) <;> try simp (dsimp := false) (disch := omega) only [wrap64]) | (refine Br.mk (fun h => ?_) (fun h => ?_) <;> try simp (dsimp := false) (disch := omega) only [wrap64]) | refine Ob.mk (by first | omega | (intro _ _; rfl) | trivial | (intros; trivial) | assumption | (intro i hi; have h0 : i = 0 := (by omega); subst h0; first | rfl | trivial) | (intro i hi; have h0 : i = 0 ∨ i = 1 := (by omega); rcases h0 with rfl | rfl <;> rfl) | (intro i hi; have h0 : i = 0 ∨ i = 1 ∨ i = 2 := (by omega); rcases h0 with rfl | rfl | rfl <;> rfl)) ?_ | ((first | ((first | refine atF (f := 97) ?_ | refine atQ (f := 97) ?_); (first | (refine cFI (hac := orbitOf_ok n (C.T k) hn (fun y t h1 h2 => hT y t h1 h2 (by omega)) 31) (hK := ?_)) | (refine cQI (hac := orbitOf_ok n (C.T k) hn (fun y t h1 h2 => hT y t h1 h2 (by omega)) 31) (hK := ?_)))) | ((first | refine atF (f := 73) ?_ | refine atQ (f := 73) ?_); (first | (refine cV (hac := length_ok (orb (C.T k) n)) (hK := ?_)) | (refine cQV (hac := length_ok (orb (C.T k) n)) (hK := ?_))))); simp (maxSteps := 1000000) (dsimp := false) (implicitDefEqProofs := false) (disch := omega) only [wrap64, go_sem, rowF_app]) | apply_assumption -exfalso -symm)
  all_goals (first | (show endQ _ _ _ _ _ _ _; (repeat (rename (∀ (A : Fr) (H : Hp), AWP _ _ _ _ A H → _) => hK; clear hK)); (repeat (rename (Fr → Hp → Prop) => K; clear K))) | (show Exists _; (repeat (rename (∀ (A : Fr) (H : Hp), AWP _ _ _ _ A H → _) => hK; clear hK)); (repeat (rename (Fr → Hp → Prop) => K; clear K))) | skip)
  · have hb := hp2 (by omega)
    have hw64 : IntKind.i64.wrap (((prO n C k : Nat) : Int) * (((orb (C.T k) n).length : Nat) : Int)) = ((prO n C (k + 1) : Nat) : Int) := by
      rw [hc, ← Int.natCast_mul, ← hp3]; exact wrap64 (by omega)
    rw [hw64]
    exact ⟨k + 1, by omega, by omega, Sub.toL (by simp only [go_sem] <;> first | trivial | (simp only [Option.some.injEq, AV.v.injEq, AV.own.injEq, AV.list.injEq, Value.int.injEq, Value.bool.injEq, true_and, and_true]; first | omega | (simp; done)) | (simp; done) | (simp; omega)) (Hp.le_refl _)⟩
  · have e : k = n := by omega
    subst e
    exact end_retV rfl rfl
/-- How many states a puzzle has. -/
noncomputable def cntP (p : Pz) : Nat := if isPz p then Go.Pm.ordG p.n.toNat p.m else 0
theorem of_ord {n : Nat} {gs : List (List Int)} {C : Ch} (h : Of n gs C) : prO n C n = Go.Pm.ordG n gs := by
  rw [prO_n]; exact (Go.Pm.ordG_chain h.1 h.2.1 h.2.2).symm
theorem isPz.natn {p : Pz} (h : isPz p) : p.n = ((p.n.toNat : Nat) : Int) := by have := h.n; omega
theorem implStateCount_ok (p : Pz) (hs : p.s.size ≤ 140737488355328) : AC Tryz.prog 28 [pz p] Hp.emp (fun _ => false) (retV (.v (.int .i64 (((cntP p : Nat) : Int))))) := by
  have hnc : isPz p → AC Tryz.prog 65 [.v (.int .i64 (p.n)), intss p.m] Hp.emp (fun _ => false) (postN (kI p.n.toNat) p.n.toNat (Of p.n.toNat p.m)) := fun h => by
    have e := h.natn
    have h1 := h.n
    have := newChain_ok p.n.toNat p.m (by omega) h.gens h.1.2.1
    rw [← e] at this
    exact this
  have hn2 : isPz p → p.n.toNat ≤ 20 := fun h => by have := h.n; omega
  refine ac_of_awp (N := ⟨_, fun _ => false, fun _ _ => rfl, true⟩) Tryz.func28 rfl (by kernel_rfl) Tryz.ntmps28 (by simp) ?_
  simp only [argsFr, List.zipIdx_cons, List.zipIdx_nil, go_sem]
  repeat' (first | refine awp_seqK fun K hK => ?_ | (refine awp_regionK 39 rfl ?_; simp only [List.map_cons, List.map_nil]; simp (maxSteps := 1000000) (dsimp := false) (implicitDefEqProofs := false) (disch := omega) only [wrap64, go_sem]) | (refine awp_regionQK 39 (by kernel_rfl) (by kernel_rfl) (by kernel_rfl) ?_; simp only [List.map_cons, List.map_nil]; simp (maxSteps := 1000000) (dsimp := false) (implicitDefEqProofs := false) (disch := omega) only [wrap64, go_sem]) | refine awp_block ?_ | (refine awp_skip ?_; simp only [go_sem]) | (refine awp_exit ?_; simp only [go_sem]) | (refine awp_ret ?_; try simp only [go_sem]) | (refine awp_condP rfl ?_; try simp only [go_sem]) | (refine BrP.mk (fun h => ?_) (fun h => ?_) <;> try simp (dsimp := false) (disch := omega) only [wrap64]) | (refine Br.mk (fun h => ?_) (fun h => ?_) <;> try simp (dsimp := false) (disch := omega) only [wrap64]) | refine Ob.mk (by first | omega | (intro _ _; rfl) | trivial | (intros; trivial) | assumption | (intro i hi; have h0 : i = 0 := (by omega); subst h0; first | rfl | trivial) | (intro i hi; have h0 : i = 0 ∨ i = 1 := (by omega); rcases h0 with rfl | rfl <;> rfl) | (intro i hi; have h0 : i = 0 ∨ i = 1 ∨ i = 2 := (by omega); rcases h0 with rfl | rfl | rfl <;> rfl)) ?_ | ((first | ((first | refine atF (f := 24) ?_ | refine atQ (f := 24) ?_); (first | (refine cV (hac := implIsValidPuzzle_ok p hs) (hK := ?_)) | (refine cQV (hac := implIsValidPuzzle_ok p hs) (hK := ?_)))) | ((first | refine atF (f := 65) ?_ | refine atQ (f := 65) ?_); refine callNew (hnc (by assumption)) (.inl rfl) (hn2 (by assumption)) (scrub_box _) rfl (fun C hC => ?_)) | ((first | refine atF (f := 66) ?_ | refine atQ (f := 66) ?_); refine cV (hfit := .cons (fits_chI (le_add _ _) (hn2 (by assumption)) (fun _ => trivial)) (.cons (.refl _) .nil)) (hac := order_ok p.n.toNat C (hn2 (by assumption)) hC.1) (hK := ?_))); simp (maxSteps := 1000000) (dsimp := false) (implicitDefEqProofs := false) (disch := omega) only [wrap64, go_sem]) | apply_assumption -exfalso -symm)
  all_goals (first | (show endQ _ _ _ _ _ _ _; (repeat (rename (∀ (A : Fr) (H : Hp), AWP _ _ _ _ A H → _) => hK; clear hK)); (repeat (rename (Fr → Hp → Prop) => K; clear K))) | (show Exists _; (repeat (rename (∀ (A : Fr) (H : Hp), AWP _ _ _ _ A H → _) => hK; clear hK)); (repeat (rename (Fr → Hp → Prop) => K; clear K))) | skip)
  · exact end_retV' rfl rfl (by unfold cntP; rw [if_pos (by assumption), of_ord hC])
  · exact end_retV' rfl rfl (by unfold cntP; rw [if_neg (by assumption)]; rfl)
end Go.Proofs.YtpffmolibjimgaaGreatDoor
end
/- Orders of groups, the program's. -/
section
namespace Go.Proofs.YtpffmolibjimgaaGreatDoor
open Go.Av
set_option linter.unusedSimpArgs false
set_option linter.unusedVariables false
attribute [local irreducible] AWP CallG Ob Br BrP Go.Av.Sub endQ AOps OpV AC thenA blkA opsVC opVC withA withArgs opsQ opQ CallQ withA2 withArgs2
open Go.Pm (ordG)
theorem gensPm {n : Int} {g : List (List Int)} (h : isGens n g) : 1 ≤ n ∧ n ≤ 20 := h.1
theorem implGroupOrderG_ok (n : Int) (gs : List (List Int)) (hok : isGens n gs) : AC Tryz.prog 29 [.v (.int .i64 (n)), intss gs] Hp.emp (fun _ => false) (retV (.v (.int .i64 (((ordG n.toNat gs : Nat) : Int))))) := by
  have h1 := gensPm hok
  have e : n = ((n.toNat : Nat) : Int) := by omega
  have hd : decide (isGens n gs) = true := decide_eq_true hok
  have hn2 : n.toNat ≤ 20 := by omega
  have hnc := newChain_ok n.toNat gs (by omega) (gensP.of hok) hok.2.1
  rw [← e] at hnc
  refine ac_of_awp (N := ⟨_, fun _ => false, fun _ _ => rfl, true⟩) Tryz.func29 rfl (by kernel_rfl) Tryz.ntmps29 (by simp) ?_
  simp only [argsFr, List.zipIdx_cons, List.zipIdx_nil, go_sem]
  repeat' (first | refine awp_seqK fun K hK => ?_ | (refine awp_regionK 275 rfl ?_; simp only [List.map_cons, List.map_nil]; simp (maxSteps := 1000000) (dsimp := false) (implicitDefEqProofs := false) (disch := omega) only [wrap64, go_sem, hd]) | (refine awp_regionQK 275 (by kernel_rfl) (by kernel_rfl) (by kernel_rfl) ?_; simp only [List.map_cons, List.map_nil]; simp (maxSteps := 1000000) (dsimp := false) (implicitDefEqProofs := false) (disch := omega) only [wrap64, go_sem, hd]) | refine awp_block ?_ | (refine awp_skip ?_; simp only [go_sem, hd]) | (refine awp_exit ?_; simp only [go_sem, hd]) | (refine awp_ret ?_; try simp only [go_sem, hd]) | (refine awp_condP rfl ?_; try simp only [go_sem, hd]) | (refine BrP.mk (fun h => ?_) (fun h => ?_) <;> try simp (dsimp := false) (disch := omega) only [wrap64]) | (refine Br.mk (fun h => ?_) (fun h => ?_) <;> try simp (dsimp := false) (disch := omega) only [wrap64]) | refine Ob.mk (by first | omega | (intro _ _; rfl) | trivial | (intros; trivial) | assumption | (intro i hi; have h0 : i = 0 := (by omega); subst h0; first | rfl | trivial) | (intro i hi; have h0 : i = 0 ∨ i = 1 := (by omega); rcases h0 with rfl | rfl <;> rfl) | (intro i hi; have h0 : i = 0 ∨ i = 1 ∨ i = 2 := (by omega); rcases h0 with rfl | rfl | rfl <;> rfl)) ?_ | ((first | ((first | refine atF (f := 59) ?_ | refine atQ (f := 59) ?_); (first | (refine cV (hac := implIsGeneratorSet_ok n gs) (hK := ?_)) | (refine cQV (hac := implIsGeneratorSet_ok n gs) (hK := ?_)))) | ((first | refine atF (f := 65) ?_ | refine atQ (f := 65) ?_); refine callNew hnc (.inl rfl) hn2 rfl rfl (fun C hC => ?_)) | ((first | refine atF (f := 66) ?_ | refine atQ (f := 66) ?_); refine cV (hfit := .cons (fits_chI (le_add _ _) hn2 (fun _ => trivial)) (.cons (.refl _) .nil)) (hac := order_ok n.toNat C hn2 hC.1) (hK := ?_))); simp (maxSteps := 1000000) (dsimp := false) (implicitDefEqProofs := false) (disch := omega) only [wrap64, go_sem, hd]) | apply_assumption -exfalso -symm)
  all_goals (first | (show endQ _ _ _ _ _ _ _; (repeat (rename (∀ (A : Fr) (H : Hp), AWP _ _ _ _ A H → _) => hK; clear hK)); (repeat (rename (Fr → Hp → Prop) => K; clear K))) | (show Exists _; (repeat (rename (∀ (A : Fr) (H : Hp), AWP _ _ _ _ A H → _) => hK; clear hK)); (repeat (rename (Fr → Hp → Prop) => K; clear K))) | skip)
  exact end_retV' rfl rfl (by rw [of_ord hC])
theorem cntP_eq {p : Pz} (h : isPz p) : cntP p = ordG p.n.toNat p.m := if_pos h
end Go.Proofs.YtpffmolibjimgaaGreatDoor
end
section
namespace Go.Proofs.YtpffmolibjimgaaGreatDoor
open Go.Av
set_option linter.unusedSimpArgs false
set_option linter.unusedVariables false
attribute [local irreducible] AWP CallG Ob Br BrP Go.Av.Sub endQ AOps OpV AC thenA blkA opsVC opVC withA withArgs opsQ opQ CallQ withA2 withArgs2


end Go.Proofs.YtpffmolibjimgaaGreatDoor
end
section
namespace Go.Proofs.YtpffmolibjimgaaGreatDoor
open Go.Av
set_option linter.unusedSimpArgs false
set_option linter.unusedVariables false
attribute [local irreducible] AWP CallG Ob Br BrP Go.Av.Sub endQ AOps OpV AC thenA blkA opsVC opVC withA withArgs opsQ opQ CallQ withA2 withArgs2

/- MoveIndex -/
def u8s (s : ByteArray) : AV := .list true 1 s.size fun i => .v (.int .u8 (s.data.toList.getD i 0).toNat)
def hasB (x : Int) (c : UInt8) : Bool := decide (x = ((c.toNat : Nat) : Int))
theorem indexB_ok (s : ByteArray) (x : Int) (hs : s.size ≤ 1048576) : AC Tryz.prog 64 [u8s s, .v (.int .u8 x)] Hp.emp (fun _ => false) (retV (.v (.int .i64 (fidx (hasB x) s.data.toList)))) := by
  have hl : s.data.toList.length = s.size := by simp
  unfold u8s
  refine ac_of_awp (N := ⟨_, fun _ => false, fun _ _ => rfl, true⟩) Tryz.func64 rfl (by kernel_rfl) Tryz.ntmps64 (by simp) ?_
  simp only [argsFr, List.zipIdx_cons, List.zipIdx_nil, go_sem]
  repeat' (first | refine awp_seqK fun K hK => ?_ | (refine awp_regionK 66483 rfl ?_; simp only [List.map_cons, List.map_nil]; simp (maxSteps := 1000000) (dsimp := false) (implicitDefEqProofs := false) (disch := omega) only [wrap64, go_sem]) | (refine awp_regionQK 66483 (by kernel_rfl) (by kernel_rfl) (by kernel_rfl) ?_; simp only [List.map_cons, List.map_nil]; simp (maxSteps := 1000000) (dsimp := false) (implicitDefEqProofs := false) (disch := omega) only [wrap64, go_sem]) | refine awp_block ?_ | (refine awp_skip ?_; simp only [go_sem]) | (refine awp_exit ?_; simp only [go_sem]) | (refine awp_ret ?_; try simp only [go_sem]) | (refine awp_condP rfl ?_; try simp only [go_sem]) | (refine BrP.mk (fun h => ?_) (fun h => ?_) <;> try simp (dsimp := false) (disch := omega) only [wrap64]) | (refine Br.mk (fun h => ?_) (fun h => ?_) <;> try simp (dsimp := false) (disch := omega) only [wrap64]) | refine Ob.mk (by first | omega | (intro _ _; rfl) | trivial | (intros; trivial) | assumption | (intro i hi; have h0 : i = 0 := (by omega); subst h0; first | rfl | trivial) | (intro i hi; have h0 : i = 0 ∨ i = 1 := (by omega); rcases h0 with rfl | rfl <;> rfl) | (intro i hi; have h0 : i = 0 ∨ i = 1 ∨ i = 2 := (by omega); rcases h0 with rfl | rfl | rfl <;> rfl)) ?_ | apply_assumption -exfalso -symm)
  all_goals (first | (show endQ _ _ _ _ _ _ _; (repeat (rename (∀ (A : Fr) (H : Hp), AWP _ _ _ _ A H → _) => hK; clear hK)); (repeat (rename (Fr → Hp → Prop) => K; clear K))) | (show Exists _; (repeat (rename (∀ (A : Fr) (H : Hp), AWP _ _ _ _ A H → _) => hK; clear hK)); (repeat (rename (Fr → Hp → Prop) => K; clear K))) | skip)
  refine awp_loop (ι := Nat) (fun k => [(8, .v (.int .i64 (k))), (7, .v (.int .i64 (s.size))), (0, .list true 1 s.size fun i => .v (.int .u8 (s.data.toList.getD i 0).toNat)), (1, .v (.int .u8 x))]) (fun k => Hp.emp) (fun k => k ≤ s.size ∧ ∀ j, j < k → hasB x (s.data.toList.getD j 0) = false) (fun k => s.size - k) 0 ?_ (Sub.toL (by simp only [go_sem] <;> first | trivial | (simp only [Option.some.injEq, AV.v.injEq, AV.own.injEq, AV.list.injEq, Value.int.injEq, Value.bool.injEq, true_and, and_true]; first | omega | (simp; done)) | (simp; done) | (simp; omega)) (by (repeat' (first | exact Hp.le_emp _ | exact Hp.le_refl _ | refine Hp.le_upd ?_ ?_)); all_goals (first | rfl | (simp only [go_sem]; first | rfl | (refine cellsE ?_ ?_ <;> (simp)) | (simp))))) ?_
  · exact ⟨Nat.zero_le _, fun j h => absurd h (Nat.not_lt_zero _)⟩
  intro k hk
  repeat' (first | refine awp_seqK fun K hK => ?_ | (refine awp_regionK 66483 rfl ?_; simp only [List.map_cons, List.map_nil]; simp (maxSteps := 1000000) (dsimp := false) (implicitDefEqProofs := false) (disch := omega) only [wrap64, go_sem]) | (refine awp_regionQK 66483 (by kernel_rfl) (by kernel_rfl) (by kernel_rfl) ?_; simp only [List.map_cons, List.map_nil]; simp (maxSteps := 1000000) (dsimp := false) (implicitDefEqProofs := false) (disch := omega) only [wrap64, go_sem]) | refine awp_block ?_ | (refine awp_skip ?_; simp only [go_sem]) | (refine awp_exit ?_; simp only [go_sem]) | (refine awp_ret ?_; try simp only [go_sem]) | (refine awp_condP rfl ?_; try simp only [go_sem]) | (refine BrP.mk (fun h => ?_) (fun h => ?_) <;> try simp (dsimp := false) (disch := omega) only [wrap64]) | (refine Br.mk (fun h => ?_) (fun h => ?_) <;> try simp (dsimp := false) (disch := omega) only [wrap64]) | refine Ob.mk (by first | omega | (intro _ _; rfl) | trivial | (intros; trivial) | assumption | (intro i hi; have h0 : i = 0 := (by omega); subst h0; first | rfl | trivial) | (intro i hi; have h0 : i = 0 ∨ i = 1 := (by omega); rcases h0 with rfl | rfl <;> rfl) | (intro i hi; have h0 : i = 0 ∨ i = 1 ∨ i = 2 := (by omega); rcases h0 with rfl | rfl | rfl <;> rfl)) ?_ | apply_assumption -exfalso -symm)
  all_goals (first | (show endQ _ _ _ _ _ _ _; (repeat (rename (∀ (A : Fr) (H : Hp), AWP _ _ _ _ A H → _) => hK; clear hK)); (repeat (rename (Fr → Hp → Prop) => K; clear K))) | (show Exists _; (repeat (rename (∀ (A : Fr) (H : Hp), AWP _ _ _ _ A H → _) => hK; clear hK)); (repeat (rename (Fr → Hp → Prop) => K; clear K))) | skip)
  · exact end_retN rfl rfl (fidx_hit _ s.data.toList 0 k (by omega) hk.2 (by simp only [hasB, decide_eq_true_eq]; assumption)).symm
  · refine ⟨k + 1, ?_, ?_, Sub.toL (by simp only [go_sem] <;> first | trivial | (simp only [Option.some.injEq, AV.v.injEq, AV.own.injEq, AV.list.injEq, Value.int.injEq, Value.bool.injEq, true_and, and_true]; first | omega | (simp; done)) | (simp; done) | (simp; omega)) (by (repeat' (first | exact Hp.le_emp _ | exact Hp.le_refl _ | refine Hp.le_upd ?_ ?_)); all_goals (first | rfl | (simp only [go_sem]; first | rfl | (refine cellsE ?_ ?_ <;> (simp)) | (simp))))⟩
    · refine ⟨by omega, fun j hj => ?_⟩
      by_cases h' : j = k
      · subst h'; simp only [hasB, decide_eq_false_iff_not]; assumption
      · exact hk.2 j (by omega)
    · omega
  · exact end_retN rfl rfl (fidx_none _ s.data.toList 0 fun j hj => hk.2 j (by omega)).symm

def mvIx (p : Pz) (nm : ByteArray) : Int := if isPz p ∧ nm.size = 1 then fidx (hasB (bt nm 0)) p.s.data.toList else -1

theorem implMoveIndex_ok (p : Pz) (nm : ByteArray) (hs : p.s.size ≤ 1048576) (hn : nm.size ≤ 1048576) : AC Tryz.prog 27 [pz p, .v (.string (nm))] Hp.emp (fun _ => false) (retV (.v (.int .i64 (mvIx p nm)))) := by
  refine ac_of_awp (N := ⟨_, fun _ => false, fun _ _ => rfl, true⟩) Tryz.func27 rfl (by kernel_rfl) Tryz.ntmps27 (by simp) ?_
  simp only [argsFr, List.zipIdx_cons, List.zipIdx_nil, go_sem]
  repeat' (first | refine awp_seqK fun K hK => ?_ | (refine awp_regionK 4119 rfl ?_; simp only [List.map_cons, List.map_nil]; simp (maxSteps := 1000000) (dsimp := false) (implicitDefEqProofs := false) (disch := omega) only [wrap64, go_sem]) | (refine awp_regionQK 4119 (by kernel_rfl) (by kernel_rfl) (by kernel_rfl) ?_; simp only [List.map_cons, List.map_nil]; simp (maxSteps := 1000000) (dsimp := false) (implicitDefEqProofs := false) (disch := omega) only [wrap64, go_sem]) | refine awp_block ?_ | (refine awp_skip ?_; simp only [go_sem]) | (refine awp_exit ?_; simp only [go_sem]) | (refine awp_ret ?_; try simp only [go_sem]) | (refine awp_condP rfl ?_; try simp only [go_sem]) | (refine BrP.mk (fun h => ?_) (fun h => ?_) <;> try simp (dsimp := false) (disch := omega) only [wrap64]) | (refine Br.mk (fun h => ?_) (fun h => ?_) <;> try simp (dsimp := false) (disch := omega) only [wrap64]) | refine Ob.mk (by first | omega | (intro _ _; rfl) | trivial | (intros; trivial) | assumption | (intro i hi; have h0 : i = 0 := (by omega); subst h0; first | rfl | trivial) | (intro i hi; have h0 : i = 0 ∨ i = 1 := (by omega); rcases h0 with rfl | rfl <;> rfl) | (intro i hi; have h0 : i = 0 ∨ i = 1 ∨ i = 2 := (by omega); rcases h0 with rfl | rfl | rfl <;> rfl)) ?_ | ((first | ((first | refine atF (f := 24) ?_ | refine atQ (f := 24) ?_); (first | (refine cV (hac := implIsValidPuzzle_ok p (by omega)) (hK := ?_)) | (refine cQV (hac := implIsValidPuzzle_ok p (by omega)) (hK := ?_)))) | ((first | refine atF (f := 64) ?_ | refine atQ (f := 64) ?_); (first | (refine cV (hac := indexB_ok p.s _ hs) (hK := ?_)) | (refine cQV (hac := indexB_ok p.s _ hs) (hK := ?_))))); simp (maxSteps := 1000000) (dsimp := false) (implicitDefEqProofs := false) (disch := omega) only [wrap64, go_sem]) | apply_assumption -exfalso -symm)
  all_goals (first | (show endQ _ _ _ _ _ _ _; (repeat (rename (∀ (A : Fr) (H : Hp), AWP _ _ _ _ A H → _) => hK; clear hK)); (repeat (rename (Fr → Hp → Prop) => K; clear K))) | (show Exists _; (repeat (rename (∀ (A : Fr) (H : Hp), AWP _ _ _ _ A H → _) => hK; clear hK)); (repeat (rename (Fr → Hp → Prop) => K; clear K))) | skip)
  all_goals (refine end_retN rfl rfl ?_; unfold mvIx)
  · rw [if_pos ⟨‹_›, by omega⟩]; rfl
  · rw [if_neg (by omega)]
  · rw [if_neg (fun h => absurd h.1 ‹_›)]

end Go.Proofs.YtpffmolibjimgaaGreatDoor
end
/- How bytes read. -/
section
namespace Go.Av
open Go.ChangeShapes Go.WideShapes Go.ChangeAt Go.RowKit
section
variable {P : Program} {H : Type} {enc : TypeId × Value → H} {w : World} {base : Nat} {spare : Nat → Bool} {held : Bool} {L : Loc}
theorem in8_wf {n : Int} (h : (Lit.int .u8 n).wf = true) : 0 ≤ n ∧ n ≤ 255 := by
  simp [Lit.wf, IntKind.min, IntKind.max] at h
  revert h
  simp only [show IntKind.u8.signed = false from rfl, show IntKind.u8.bits = 8 from rfl]
  intro h
  simp at h
  omega
theorem rd_bytes {t e : TypeId} {fuel : Nat} {cs : List Value} {x : DataW H × List MemPlace} (ht : P.underlying t = some (.slice e)) (he : P.underlying e = some (.int .u8)) (hc : P.cellsOf e = 1) (h : DataW.trod enc P w base spare held fuel t cs = some x) :
    ∃ (v : Value) (xs : List Int), cs = [v] ∧ (∀ L, Rd w All L (bts xs) v) ∧ xs.length ≤ 9223372036854775807 ∧ ∀ j, 0 ≤ xs.getD j 0 ∧ xs.getD j 0 ≤ 255 := by
  have hm : maxLen = 9223372036854775807 := by decide
  rcases open_ints ht he hc h with ⟨rfl, _⟩ | ⟨a, len, cap, zs, rfl, _, hl, hmx, hz, _, hcell, hwf⟩
  · exact ⟨_, [], rfl, fun L => ⟨none, 0, rfl, Nat.le_refl _, by simp, fun _ => ⟨rfl, rfl⟩, by simp⟩, by simp, by simp⟩
  · have hlen : len ≤ zs.length := by rw [hz]; split <;> omega
    refine ⟨_, zs.take len, rfl, fun L => rd_list u8v 0 (V := fun i => .int .u8 (zs.getD i 0)) (by simp; omega) hl (fun i hi => hcell i (by omega)) (fun i hi L' => ?_), by simp; omega, fun j => ?_⟩
    · have e : (zs.take len).getD i 0 = zs.getD i 0 := by simp [hi]
      rw [e]; rfl
    · by_cases hj : j < (zs.take len).length
      · rw [List.getD_eq_getElem?_getD, List.getElem?_eq_getElem hj, Option.getD_some]
        exact in8_wf (hwf _ (List.mem_of_mem_take (List.getElem_mem hj)))
      · rw [List.getD_eq_getElem?_getD, List.getElem?_eq_none (by omega), Option.getD_none]; omega
end
end Go.Av
end
