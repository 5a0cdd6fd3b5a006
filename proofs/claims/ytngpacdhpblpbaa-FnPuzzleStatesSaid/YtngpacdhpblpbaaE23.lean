import Derived.Test.YtngpacdhpblpbaaE21
import Derived.Test.YtngpacdhpblpbaaE5
import Derived.Test.YtngpacdhpblpbaaE11
import Derived.Test.YtngpacdhpblpbaaE18
import Derived.Test.YtngpacdhpblpbaaE17
/- Members of groups, the program. -/
section
namespace Go.Proofs.Ytngpacdhpblpbaa
open Go.Av
set_option linter.unusedSimpArgs false
set_option linter.unusedVariables false
attribute [local irreducible] AWP CallG Ob Br BrP Go.Av.Sub endQ AOps OpV AC thenA blkA opsVC opVC withA withArgs opsQ opQ CallQ withA2 withArgs2
open Go.Pm (Pm)
/-- Is a row a member? -/
noncomputable def mbP (n : Int) (g : List (List Int)) (s : List Int) : Bool := decide (isGens n g ∧ (s.length : Int) = n ∧ isPerm s) && gB n.toNat g s
theorem implIsMember_ok (n : Int) (g : List (List Int)) (s : List Int) : AC Try.prog 18 [.v (.int .i64 (n)), intss g, ints s] Hp.emp (fun _ => false) (retV (.v (.bool (mbP n g s)))) := by
  by_cases h : isGens n g ∧ (s.length : Int) = n ∧ isPerm s
  · obtain ⟨h1, h2, h3⟩ := h
    have hd1 : decide (isGens n g) = true := decide_eq_true h1
    have hd2 : decide ((s.length : Int) = n) = true := decide_eq_true h2
    have hd3 : decide (isPerm s) = true := decide_eq_true h3
    have hn := h1.1
    have e : n = ((n.toNat : Nat) : Int) := by omega
    have hn2 : n.toNat ≤ 20 := by omega
    have hnc := newChain_ok n.toNat g (by omega) (gensP.of h1) h1.2.1
    rw [← e] at hnc
    have hpm : Pm n.toNat s := by
      have := ((isPerm_pm s).1 h3).2
      rwa [show s.length = n.toNat by omega] at this
    have hm : mbP n g s = gB n.toNat g s := by unfold mbP; rw [decide_eq_true ⟨h1, h2, h3⟩]; rfl
    rw [hm]
    refine ac_of_awp (N := ⟨_, fun _ => false, fun _ _ => rfl⟩) Try.func18 rfl (by kernel_rfl) Try.ntmps18 (by simp) ?_
    simp only [argsFr, List.zipIdx_cons, List.zipIdx_nil, go_sem]
    repeat' (first | refine awp_seqK fun K hK => ?_ | (refine awp_regionK 71 rfl ?_; simp only [List.map_cons, List.map_nil]; simp (maxSteps := 1000000) (dsimp := false) (implicitDefEqProofs := false) (disch := omega) only [wrap64, go_sem, hd1, hd2, hd3]) | (refine awp_regionQK 71 (by kernel_rfl) (by kernel_rfl) (by kernel_rfl) ?_; simp only [List.map_cons, List.map_nil]; simp (maxSteps := 1000000) (dsimp := false) (implicitDefEqProofs := false) (disch := omega) only [wrap64, go_sem, hd1, hd2, hd3]) | refine awp_block ?_ | (refine awp_skip ?_; simp only [go_sem, hd1, hd2, hd3]) | (refine awp_exit ?_; simp only [go_sem, hd1, hd2, hd3]) | (refine awp_ret ?_; try simp only [go_sem, hd1, hd2, hd3]) | (refine awp_condP rfl ?_; try simp only [go_sem, hd1, hd2, hd3]) | (refine BrP.mk (fun h => ?_) (fun h => ?_) <;> try simp (dsimp := false) (disch := omega) only [wrap64]) | (refine Br.mk (fun h => ?_) (fun h => ?_) <;> try simp (dsimp := false) (disch := omega) only [wrap64]) | refine Ob.mk (by first | omega | (intro _ _; rfl) | trivial | (intros; trivial) | assumption | (intro i hi; have h0 : i = 0 := (by omega); subst h0; first | rfl | trivial) | (intro i hi; have h0 : i = 0 ∨ i = 1 := (by omega); rcases h0 with rfl | rfl <;> rfl) | (intro i hi; have h0 : i = 0 ∨ i = 1 ∨ i = 2 := (by omega); rcases h0 with rfl | rfl | rfl <;> rfl)) ?_ | ((first | ((first | refine atF (f := 76) ?_ | refine atQ (f := 76) ?_); (first | (refine cV (hac := implIsGeneratorSet_ok n g) (hK := ?_)) | (refine cQV (hac := implIsGeneratorSet_ok n g) (hK := ?_)))) | ((first | refine atF (f := 77) ?_ | refine atQ (f := 77) ?_); (first | (refine cV (hac := length_ok s) (hK := ?_)) | (refine cQV (hac := length_ok s) (hK := ?_)))) | ((first | refine atF (f := 78) ?_ | refine atQ (f := 78) ?_); (first | (refine cV (hac := implIsPermutation_ok s) (hK := ?_)) | (refine cQV (hac := implIsPermutation_ok s) (hK := ?_)))) | ((first | refine atF (f := 74) ?_ | refine atQ (f := 74) ?_); refine callNew hnc (.inl rfl) hn2 rfl rfl (fun C hC => ?_)) | ((first | refine atF (f := 75) ?_ | refine atQ (f := 75) ?_); refine cV (hfit := .cons (fits_chI (le_add _ _) hn2 (fun _ => trivial)) (.cons (.refl _) (.cons (.refl _) .nil))) (hac := has_ok n.toNat C 0 s hn2 (by omega) hC.1 hpm) (hK := ?_))); simp (maxSteps := 1000000) (dsimp := false) (implicitDefEqProofs := false) (disch := omega) only [wrap64, go_sem, hd1, hd2, hd3]) | apply_assumption -exfalso -symm)
    all_goals (first | (show endQ _ _ _ _ _ _ _; (repeat (rename (∀ (A : Fr) (H : Hp), AWP _ _ _ _ A H → _) => hK; clear hK)); (repeat (rename (Fr → Hp → Prop) => K; clear K))) | (show Exists _; (repeat (rename (∀ (A : Fr) (H : Hp), AWP _ _ _ _ A H → _) => hK; clear hK)); (repeat (rename (Fr → Hp → Prop) => K; clear K))) | skip)
    exact end_retV' rfl rfl (by rw [gB_has hC hpm])
  · have hno := h
    have hm : mbP n g s = false := by unfold mbP; rw [decide_eq_false h]; rfl
    rw [hm]
    refine ac_of_awp (N := ⟨_, fun _ => false, fun _ _ => rfl⟩) Try.func18 rfl (by kernel_rfl) Try.ntmps18 (by simp) ?_
    simp only [argsFr, List.zipIdx_cons, List.zipIdx_nil, go_sem]
    repeat' (first | refine awp_seqK fun K hK => ?_ | (refine awp_regionK 71 rfl ?_; simp only [List.map_cons, List.map_nil]; simp (maxSteps := 1000000) (dsimp := false) (implicitDefEqProofs := false) (disch := omega) only [wrap64, go_sem]) | (refine awp_regionQK 71 (by kernel_rfl) (by kernel_rfl) (by kernel_rfl) ?_; simp only [List.map_cons, List.map_nil]; simp (maxSteps := 1000000) (dsimp := false) (implicitDefEqProofs := false) (disch := omega) only [wrap64, go_sem]) | refine awp_block ?_ | (refine awp_skip ?_; simp only [go_sem]) | (refine awp_exit ?_; simp only [go_sem]) | (refine awp_ret ?_; try simp only [go_sem]) | (refine awp_condP rfl ?_; try simp only [go_sem]) | (refine BrP.mk (fun h => ?_) (fun h => ?_) <;> try simp (dsimp := false) (disch := omega) only [wrap64]) | (refine Br.mk (fun h => ?_) (fun h => ?_) <;> try simp (dsimp := false) (disch := omega) only [wrap64]) | refine Ob.mk (by first | omega | (intro _ _; rfl) | trivial | (intros; trivial) | assumption | (intro i hi; have h0 : i = 0 := (by omega); subst h0; first | rfl | trivial) | (intro i hi; have h0 : i = 0 ∨ i = 1 := (by omega); rcases h0 with rfl | rfl <;> rfl) | (intro i hi; have h0 : i = 0 ∨ i = 1 ∨ i = 2 := (by omega); rcases h0 with rfl | rfl | rfl <;> rfl)) ?_ | ((first | ((first | refine atF (f := 76) ?_ | refine atQ (f := 76) ?_); (first | (refine cV (hac := implIsGeneratorSet_ok n g) (hK := ?_)) | (refine cQV (hac := implIsGeneratorSet_ok n g) (hK := ?_)))) | ((first | refine atF (f := 77) ?_ | refine atQ (f := 77) ?_); (first | (refine cV (hac := length_ok s) (hK := ?_)) | (refine cQV (hac := length_ok s) (hK := ?_)))) | ((first | refine atF (f := 78) ?_ | refine atQ (f := 78) ?_); (first | (refine cV (hac := implIsPermutation_ok s) (hK := ?_)) | (refine cQV (hac := implIsPermutation_ok s) (hK := ?_))))); simp (maxSteps := 1000000) (dsimp := false) (implicitDefEqProofs := false) (disch := omega) only [wrap64, go_sem]) | apply_assumption -exfalso -symm)
    all_goals (first | (show endQ _ _ _ _ _ _ _; (repeat (rename (∀ (A : Fr) (H : Hp), AWP _ _ _ _ A H → _) => hK; clear hK)); (repeat (rename (Fr → Hp → Prop) => K; clear K))) | (show Exists _; (repeat (rename (∀ (A : Fr) (H : Hp), AWP _ _ _ _ A H → _) => hK; clear hK)); (repeat (rename (Fr → Hp → Prop) => K; clear K))) | skip)
    all_goals first
      | exact end_retV rfl rfl
      | exact absurd (And.intro (by assumption) (And.intro (by assumption) (by assumption))) hno
end Go.Proofs.Ytngpacdhpblpbaa
end
/- Words and states: plain facts for the law of puzzles' states. -/
section
namespace Go.Proofs.Ytngpacdhpblpbaa
open Go.Av
set_option linter.unusedSimpArgs false
set_option linter.unusedVariables false
attribute [local irreducible] AWP CallG Ob Br BrP Go.Av.Sub endQ AOps OpV AC thenA blkA opsVC opVC withA withArgs opsQ opQ CallQ withA2 withArgs2
open Go.Pm (Pm Gen comp invp idn)
theorem isW_small {g : Int} {w : List Int} (h : isW g w) : isW 8 w := ⟨h.1, fun j hj => by have := h.2 j hj; unfold isL at *; omega⟩
theorem isWg_inv {g : Int} {w : List Int} (h : isW g w) : isW g (inv w) := by
  refine ⟨by rw [inv_length]; exact h.1, fun j hj => ?_⟩
  rw [inv_length] at hj
  have e : (inv w).getD j 0 = - w.getD (w.length - 1 - j) 0 := by
    unfold inv
    rw [List.getD_eq_getElem?_getD, List.getElem?_reverse (by rw [List.length_map]; exact hj), List.length_map, List.getElem?_map, List.getElem?_eq_getElem (by omega), List.getD_eq_getElem?_getD, List.getElem?_eq_getElem (by omega)]
    rfl
  have := h.2 (w.length - 1 - j) (by omega)
  rw [e]; unfold isL at *; omega
theorem invP_eq {g : Int} {w : List Int} (h : isW g w) : invP w = inv w := if_pos (isW_small h)
theorem inL_mem {g : List (List Int)} {w : List Int} (h : isW g.length w) : ∀ x ∈ w, inL g x := fun x hx => by
  obtain ⟨j, hj, rfl⟩ := List.getElem_of_mem hx
  have := h.2 j hj
  rw [List.getD_eq_getElem?_getD, List.getElem?_eq_getElem hj] at this
  unfold isL at this
  simp only [Option.getD_some] at this
  unfold inL; omega
theorem appP_isSt {p : Pz} {s w : List Int} (h : isSt p s) (hw : isW p.m.length w) : isSt p (appP p s w) := by
  have hp := appP_pm h hw
  have hn := h.1.1.1
  refine ⟨h.1, by rw [hp.1]; omega, (isPerm_pm _).2 ⟨by rw [hp.1]; omega, by rw [hp.1]; exact hp⟩⟩
theorem appP_back {p : Pz} {s w : List Int} (h : isSt p s) (hw : isW p.m.length w) : appP p (appP p s w) (inv w) = s := by
  unfold appP
  rw [evalP_inv h.1.gens w (inL_mem hw)]
  exact h.pm.cancel (evalP_all h.1.gens (.of hw))
theorem appW_back {p : Pz} {s w : List Int} (h : isSt p s) (hw : isW p.m.length w) : appW p (appP p s w) (invP w) = (s, true) := by
  unfold appW
  rw [if_pos ⟨appP_isSt h hw, by rw [invP_eq hw]; exact isWg_inv hw⟩, invP_eq hw, appP_back h hw]
theorem letP_gen {n : Nat} {g : List (List Int)} (hg : gensP n g) {l : Int} (hl : inL g l) : Gen n g (letP g l) := by
  have hS : ∀ x ∈ g, Pm n x := fun x hx => by
    obtain ⟨j, hj, rfl⟩ := List.getElem_of_mem hx
    have := hg.2.2 j hj
    rwa [List.getD_eq_getElem?_getD, List.getElem?_eq_getElem hj] at this
  have hm : ∀ j, j < g.length → g.getD j [] ∈ g := fun j hj => by rw [List.getD_eq_getElem?_getD, List.getElem?_eq_getElem hj]; exact List.getElem_mem hj
  unfold inL at hl
  unfold letP
  split
  · exact Gen.of hS (hm _ (by omega))
  · exact Gen.inv hS (Gen.of hS (hm _ (by omega)))
theorem evalP_gen {n : Nat} {g : List (List Int)} (hg : gensP n g) (w : List Int) (hw : ∀ x ∈ w, inL g x) : Gen n g (evalP n g w) := by
  have hS : ∀ x ∈ g, Pm n x := fun x hx => by
    obtain ⟨j, hj, rfl⟩ := List.getElem_of_mem hx
    have := hg.2.2 j hj
    rwa [List.getD_eq_getElem?_getD, List.getElem?_eq_getElem hj] at this
  have key : ∀ (w : List Int) (q : List Int), (∀ x ∈ w, inL g x) → Gen n g q → Gen n g (w.foldl (fun p l => comp p (letP g l)) q) := by
    intro w
    induction w with
    | nil => exact fun q _ h => h
    | cons l w ih => exact fun q hw h => ih _ (fun x hx => hw x (List.mem_cons_of_mem _ hx)) (h.prod hS (letP_gen hg (hw l List.mem_cons_self)))
  exact key w (idn n) hw .one
theorem reach_app {p : Pz} {s w : List Int} (h : isSt p s) (hw : isW p.m.length w) : reachP p (appP p s w) = reachP p s := by
  rw [reachP_yes h, reachP_yes (appP_isSt h hw)]
  have hg := h.1.gens
  have hS : ∀ x ∈ p.m, Pm p.n.toNat x := fun x hx => by
    obtain ⟨j, hj, rfl⟩ := List.getElem_of_mem hx
    have := hg.2.2 j hj
    rwa [List.getD_eq_getElem?_getD, List.getElem?_eq_getElem hj] at this
  have he := evalP_gen hg w (inL_mem hw)
  have hi := Gen.inv hS he
  unfold gB
  refine decide_eq_decide.2 ⟨fun k => ?_, fun k => k.prod hS he⟩
  have := k.prod hS hi
  unfold appP at this
  rwa [h.pm.cancel (evalP_all hg (.of hw))] at this
theorem mb_reach {p : Pz} {s : List Int} (h : isSt p s) : mbP p.n p.m s = reachP p s := by
  rw [reachP_yes h]
  unfold mbP
  rw [decide_eq_true ⟨h.1.1, h.2.1, h.2.2⟩]; rfl
end Go.Proofs.Ytngpacdhpblpbaa
end
/- Texts of the reference: splitText, parseInt, formatInt, joinText, formatInts. -/
section
namespace Go.Proofs.Ytngpacdhpblpbaa
open Go.Av
set_option linter.unusedSimpArgs false
set_option linter.unusedVariables false
attribute [local irreducible] AWP CallG Ob Br BrP Go.Av.Sub endQ AOps OpV AC thenA blkA opsVC opVC withA withArgs opsQ opQ CallQ withA2 withArgs2
/-- A row of texts. -/
@[go_sem] def strs (ws : List ByteArray) : AV := .list false 1 ws.length (cM sv ByteArray.empty ws)
@[go_sem] theorem cM_sv (ws : List ByteArray) (i : Nat) : cM sv ByteArray.empty ws i = .v (.string (ws.getD i ByteArray.empty)) := rfl
theorem fits_S {H : Hp} {D : Nat → Prop} {h n : Nat} {ws : List ByteArray} (hH : H h = some (.cells n (cM sv ByteArray.empty ws))) (hD : D h) (hn : n = ws.length) : Fits H D (.own h 0 1 n) (strs ws) := by
  subst hn
  exact .own hH hD (by omega) (fun _ _ => trivial) fun i _ => by rw [Nat.zero_add]; exact .refl _
theorem ap_S (xs : List ByteArray) (y : ByteArray) (z : Nat → AV) : ∀ i, i < xs.length + 1 → apF xs.length (cM sv ByteArray.empty xs) (setF z 0 (sv y)) i = cM sv ByteArray.empty (xs ++ [y]) i := fun i hi => by
  by_cases h : i < xs.length
  · simp [apF, cM, List.getD_eq_getElem?_getD, List.getElem?_append, h]
  · have e : i = xs.length := by omega
    subst e
    simp [apF, setF, cM, List.getD_eq_getElem?_getD]
/-- The pieces before place k, and where the open piece begins. -/
def spS (s : ByteArray) (c : Nat) : Nat → List ByteArray × Nat
  | 0 => ([], 0)
  | k + 1 => if k = s.size ∨ (s.data.toList.getD k 0).toNat = c then ((spS s c k).1 ++ [s.extract (spS s c k).2 k], k + 1) else spS s c k
theorem spS_le (s : ByteArray) (c : Nat) : ∀ k, (spS s c k).2 ≤ k ∧ (spS s c k).1.length ≤ k
  | 0 => ⟨Nat.le_refl _, Nat.le_refl _⟩
  | k + 1 => by
    have := spS_le s c k
    unfold spS
    split
    · simp only [List.length_append, List.length_singleton]; omega
    · omega
theorem spS_row (s : ByteArray) (c : Nat) : ∀ k w, w ∈ (spS s c k).1 → w.size ≤ s.size
  | 0, w, h => by cases h
  | k + 1, w, h => by
    unfold spS at h
    split at h
    · rcases List.mem_append.1 h with h | h
      · exact spS_row s c k w h
      · rw [List.mem_singleton.1 h]; simp only [ByteArray.size_extract]; omega
    · exact spS_row s c k w h
def splitP (s : ByteArray) (c : Nat) : List ByteArray := (spS s c (s.size + 1)).1
theorem splitText_ok (s : ByteArray) (c : Nat) (hs : s.size ≤ 1000000) : AC Try.prog 212 [.v (.string (s)), .v (.int .u8 (c : Nat))] Hp.emp (fun _ => false) (retV (strs (splitP s c))) := by
  refine ac_of_awp (N := ⟨_, fun _ => false, fun _ _ => rfl⟩) Try.func212 rfl (by kernel_rfl) Try.ntmps212 (by simp) ?_
  simp only [argsFr, List.zipIdx_cons, List.zipIdx_nil, go_sem]
  repeat' (first | refine awp_seqK fun K hK => ?_ | (refine awp_regionK 33558771 rfl ?_; simp only [List.map_cons, List.map_nil]; simp (maxSteps := 1000000) (dsimp := false) (implicitDefEqProofs := false) (disch := omega) only [wrap64, go_sem]) | (refine awp_regionQK 33558771 (by kernel_rfl) (by kernel_rfl) (by kernel_rfl) ?_; simp only [List.map_cons, List.map_nil]; simp (maxSteps := 1000000) (dsimp := false) (implicitDefEqProofs := false) (disch := omega) only [wrap64, go_sem]) | refine awp_block ?_ | (refine awp_skip ?_; simp only [go_sem]) | (refine awp_exit ?_; simp only [go_sem]) | (refine awp_ret ?_; try simp only [go_sem]) | (refine awp_condP rfl ?_; try simp only [go_sem]) | (refine BrP.mk (fun h => ?_) (fun h => ?_) <;> try simp (dsimp := false) (disch := omega) only [wrap64]) | (refine Br.mk (fun h => ?_) (fun h => ?_) <;> try simp (dsimp := false) (disch := omega) only [wrap64]) | refine Ob.mk (by first | omega | (intro _ _; rfl) | trivial | (intros; trivial) | assumption | (intro i hi; have h0 : i = 0 := (by omega); subst h0; first | rfl | trivial) | (intro i hi; have h0 : i = 0 ∨ i = 1 := (by omega); rcases h0 with rfl | rfl <;> rfl) | (intro i hi; have h0 : i = 0 ∨ i = 1 ∨ i = 2 := (by omega); rcases h0 with rfl | rfl | rfl <;> rfl)) ?_ | apply_assumption -exfalso -symm)
  all_goals (first | (show endQ _ _ _ _ _ _ _; (repeat (rename (∀ (A : Fr) (H : Hp), AWP _ _ _ _ A H → _) => hK; clear hK)); (repeat (rename (Fr → Hp → Prop) => K; clear K))) | (show Exists _; (repeat (rename (∀ (A : Fr) (H : Hp), AWP _ _ _ _ A H → _) => hK; clear hK)); (repeat (rename (Fr → Hp → Prop) => K; clear K))) | skip)
  refine awp_loop (ι := Nat) (fun k => [(7, .v (.int .i64 ((k : Nat)))), (6, .v (.int .i64 (((spS s c k).2 : Nat)))), (5, .own 8 0 1 (spS s c k).1.length), (0, .v (.string (s))), (1, .v (.int .u8 (c : Nat)))]) (fun k => Hp.emp.upd 8 (.cells (spS s c k).1.length (cM sv ByteArray.empty (spS s c k).1))) (fun k => k ≤ s.size + 1) (fun k => s.size + 1 - k) 0 (Nat.zero_le _) ?_ ?_
  · exact Sub.toFF (fun _ => False) (Fr.fit_cons rfl (.refl _) (Fr.fit_cons rfl (.refl _) (Fr.fit_cons rfl (.refl _) (Fr.fit_cons rfl (.refl _) (Fr.fit_cons rfl (.refl _) (Fr.fit_nil _)))))) (leF_upd rfl (bfE rfl (fun i hi => absurd hi (Nat.not_lt_zero _))) leF_emp id)
  intro k hk
  have hle := spS_le s c k
  have hsz : spS s c (k + 1) = if k = s.size ∨ (s.data.toList.getD k 0).toNat = c then ((spS s c k).1 ++ [s.extract (spS s c k).2 k], k + 1) else spS s c k := rfl
  repeat' (first | refine awp_seqK fun K hK => ?_ | (refine awp_regionK 33558771 rfl ?_; simp only [List.map_cons, List.map_nil]; simp (maxSteps := 1000000) (dsimp := false) (implicitDefEqProofs := false) (disch := omega) only [wrap64, go_sem]) | (refine awp_regionQK 33558771 (by kernel_rfl) (by kernel_rfl) (by kernel_rfl) ?_; simp only [List.map_cons, List.map_nil]; simp (maxSteps := 1000000) (dsimp := false) (implicitDefEqProofs := false) (disch := omega) only [wrap64, go_sem]) | refine awp_block ?_ | (refine awp_skip ?_; simp only [go_sem]) | (refine awp_exit ?_; simp only [go_sem]) | (refine awp_ret ?_; try simp only [go_sem]) | (refine awp_condP rfl ?_; try simp only [go_sem]) | (refine BrP.mk (fun h => ?_) (fun h => ?_) <;> try simp (dsimp := false) (disch := omega) only [wrap64]) | (refine Br.mk (fun h => ?_) (fun h => ?_) <;> try simp (dsimp := false) (disch := omega) only [wrap64]) | refine Ob.mk (by first | omega | (intro _ _; rfl) | trivial | (intros; trivial) | assumption | (intro i hi; have h0 : i = 0 := (by omega); subst h0; first | rfl | trivial) | (intro i hi; have h0 : i = 0 ∨ i = 1 := (by omega); rcases h0 with rfl | rfl <;> rfl) | (intro i hi; have h0 : i = 0 ∨ i = 1 ∨ i = 2 := (by omega); rcases h0 with rfl | rfl | rfl <;> rfl)) ?_ | apply_assumption -exfalso -symm)
  all_goals (first | (show endQ _ _ _ _ _ _ _; (repeat (rename (∀ (A : Fr) (H : Hp), AWP _ _ _ _ A H → _) => hK; clear hK)); (repeat (rename (Fr → Hp → Prop) => K; clear K))) | (show Exists _; (repeat (rename (∀ (A : Fr) (H : Hp), AWP _ _ _ _ A H → _) => hK; clear hK)); (repeat (rename (Fr → Hp → Prop) => K; clear K))) | skip)
  iterate 2
    · have hit : k = s.size ∨ (s.data.toList.getD k 0).toNat = c := by omega
      rw [if_pos hit] at hsz
      refine ⟨k + 1, by omega, by omega, ?_⟩
      have e1 : (spS s c (k + 1)).1.length = (spS s c k).1.length + 1 := by rw [hsz]; simp only [List.length_append, List.length_singleton]
      have e2 : (spS s c (k + 1)).2 = k + 1 := by rw [hsz]
      rw [e1, e2, show (spS s c (k + 1)).1 = (spS s c k).1 ++ [s.extract (spS s c k).2 k] by rw [hsz]]
      exact Sub.toFF (fun _ => False) (Fr.fit_cons rfl (.refl _) (Fr.fit_cons rfl (.refl _) (Fr.fit_cons rfl (.refl _) (Fr.fit_cons rfl (.refl _) (Fr.fit_cons rfl (.refl _) (Fr.fit_nil _)))))) (leF_upd rfl (bfE rfl (ap_S _ _ _)) leF_emp id)
  · have hit : ¬ (k = s.size ∨ (s.data.toList.getD k 0).toNat = c) := by omega
    rw [if_neg hit] at hsz
    refine ⟨k + 1, by omega, by omega, ?_⟩
    rw [hsz]
    exact Sub.toL (by simp only [go_sem] <;> first | trivial | (simp only [Option.some.injEq, AV.v.injEq, AV.own.injEq, AV.list.injEq, Value.int.injEq, Value.bool.injEq, true_and, and_true]; first | omega | (simp; done)) | (simp; done) | (simp; omega)) (Hp.le_refl _)
  · have ek : k = s.size + 1 := by omega
    rw [ek]
    exact end_retF rfl rfl (fits_S rfl trivial rfl)
/-- The number that the first k digits say. -/
def pvS (s : ByteArray) : Nat → Int
  | 0 => 0
  | k + 1 => pvS s k * 10 + (((s.data.toList.getD k 0).toNat : Nat) - 48)
/-- A text of a number without a sign and without leading zeros. -/
def okI (s : ByteArray) : Prop := (1 ≤ s.size ∧ s.size ≤ 9) ∧ ¬ ((s.data.toList.getD 0 0).toNat = 48 ∧ 1 < s.size) ∧ ∀ j, j < s.size → 48 ≤ (s.data.toList.getD j 0).toNat ∧ (s.data.toList.getD j 0).toNat ≤ 57
instance (s : ByteArray) : Decidable (okI s) := by unfold okI; infer_instance
theorem pvS_rng (s : ByteArray) : ∀ k, (∀ j, j < k → 48 ≤ (s.data.toList.getD j 0).toNat ∧ (s.data.toList.getD j 0).toNat ≤ 57) → 0 ≤ pvS s k ∧ pvS s k < 10 ^ k
  | 0, _ => ⟨Int.le_refl _, by show (0 : Int) < 1; decide⟩
  | k + 1, h => by
    have h1 := pvS_rng s k fun j hj => h j (by omega)
    have h2 := h k (by omega)
    have e : pvS s (k + 1) = pvS s k * 10 + (((s.data.toList.getD k 0).toNat : Nat) - 48) := rfl
    have e2 : (10 : Int) ^ (k + 1) = 10 ^ k * 10 := by rw [Int.pow_succ]
    rw [e, e2]; omega
def pvP (s : ByteArray) : Int := if okI s then pvS s s.size else 0
theorem wrapU8 {x : Int} (h : 0 ≤ x ∧ x < 256) : IntKind.u8.wrap x = x := by
  unfold IntKind.wrap
  rw [show (2 : Int) ^ IntKind.u8.bits = 256 from rfl, show IntKind.u8.signed = false from rfl]
  simp only [Bool.false_and, Bool.false_eq_true, if_false]
  omega
theorem parseInt_ok (s : ByteArray) (hs : s.size ≤ 1000000) : AC Try.prog 216 [.v (.string (s))] Hp.emp (fun _ => false) (retV (.tup 2 (vecF [.v (.int .i64 (pvP s)), .v (.bool (decide (okI s)))]))) := by
  refine ac_of_awp (N := ⟨_, fun _ => false, fun _ _ => rfl⟩) Try.func216 rfl (by kernel_rfl) Try.ntmps216 (by simp) ?_
  simp only [argsFr, List.zipIdx_cons, List.zipIdx_nil, go_sem]
  repeat' (first | refine awp_seqK fun K hK => ?_ | (refine awp_regionK 549898420285 rfl ?_; simp only [List.map_cons, List.map_nil]; simp (maxSteps := 1000000) (dsimp := false) (implicitDefEqProofs := false) (disch := omega) only [wrap64, go_sem, Int.toNat_zero]) | (refine awp_regionQK 549898420285 (by kernel_rfl) (by kernel_rfl) (by kernel_rfl) ?_; simp only [List.map_cons, List.map_nil]; simp (maxSteps := 1000000) (dsimp := false) (implicitDefEqProofs := false) (disch := omega) only [wrap64, go_sem, Int.toNat_zero]) | refine awp_block ?_ | (refine awp_skip ?_; simp only [go_sem, Int.toNat_zero]) | (refine awp_exit ?_; simp only [go_sem, Int.toNat_zero]) | (refine awp_ret ?_; try simp only [go_sem, Int.toNat_zero]) | (refine awp_condP rfl ?_; try simp only [go_sem, Int.toNat_zero]) | (refine BrP.mk (fun h => ?_) (fun h => ?_) <;> try simp (dsimp := false) (disch := omega) only [wrap64]) | (refine Br.mk (fun h => ?_) (fun h => ?_) <;> try simp (dsimp := false) (disch := omega) only [wrap64]) | refine Ob.mk (by first | omega | (intro _ _; rfl) | trivial | (intros; trivial) | assumption | (intro i hi; have h0 : i = 0 := (by omega); subst h0; first | rfl | trivial) | (intro i hi; have h0 : i = 0 ∨ i = 1 := (by omega); rcases h0 with rfl | rfl <;> rfl) | (intro i hi; have h0 : i = 0 ∨ i = 1 ∨ i = 2 := (by omega); rcases h0 with rfl | rfl | rfl <;> rfl)) ?_ | apply_assumption -exfalso -symm)
  all_goals (first | (show endQ _ _ _ _ _ _ _; (repeat (rename (∀ (A : Fr) (H : Hp), AWP _ _ _ _ A H → _) => hK; clear hK)); (repeat (rename (Fr → Hp → Prop) => K; clear K))) | (show Exists _; (repeat (rename (∀ (A : Fr) (H : Hp), AWP _ _ _ _ A H → _) => hK; clear hK)); (repeat (rename (Fr → Hp → Prop) => K; clear K))) | skip)
  iterate 2
    · have hn : ¬ okI s := fun h => by have := h.1; omega
      rw [show pvP s = 0 from if_neg hn, decide_eq_false hn]
      exact end_T2 rfl (by decide) rfl rfl (.refl _) (.refl _)
  · have hn : ¬ okI s := fun h => by have := h.2.1; omega
    rw [show pvP s = 0 from if_neg hn, decide_eq_false hn]
    exact end_T2 rfl (by decide) rfl rfl (.refl _) (.refl _)
  all_goals
    refine awp_loop (ι := Nat) (fun k => [(5, .v (.int .i64 ((k : Nat)))), (4, .v (.int .i64 (pvS s k))), (0, .v (.string (s)))]) (fun _ => Hp.emp) (fun k => k ≤ s.size ∧ (1 ≤ s.size ∧ s.size ≤ 9) ∧ ¬ ((s.data.toList.getD 0 0).toNat = 48 ∧ 1 < s.size) ∧ Hold (∀ j, j < k → 48 ≤ (s.data.toList.getD j 0).toNat ∧ (s.data.toList.getD j 0).toNat ≤ 57)) (fun k => s.size - k) 0 ⟨Nat.zero_le _, by omega, by omega, ⟨fun j h => absurd h (Nat.not_lt_zero _)⟩⟩ (Sub.toL (by simp only [go_sem] <;> first | trivial | (simp only [Option.some.injEq, AV.v.injEq, AV.own.injEq, AV.list.injEq, Value.int.injEq, Value.bool.injEq, true_and, and_true]; first | omega | (simp [pvS]; done)) | (simp [pvS]; done) | (simp [pvS]; omega)) (Hp.le_refl _)) ?_
    rintro k ⟨hk, h1, h2, h3⟩
    have hr := pvS_rng s k h3.h
    have hp : (10 : Int) ^ k ≤ 1000000000 := by
      have := Nat.pow_le_pow_right (show 1 ≤ 10 by omega) (show k ≤ 9 by omega)
      have e : ((10 ^ k : Nat) : Int) = (10 : Int) ^ k := by simp
      omega
    have hsz : pvS s (k + 1) = pvS s k * 10 + (((s.data.toList.getD k 0).toNat : Nat) - 48) := rfl
    have hw8 : k < s.size → 48 ≤ (s.data.toList.getD k 0).toNat → (s.data.toList.getD k 0).toNat ≤ 57 → IntKind.i64.wrap (pvS s k * 10 + IntKind.i64.wrap (IntKind.u8.wrap (((s.data.toList.getD k 0).toNat : Int) - 48))) = pvS s (k + 1) := fun _ a b => by
      rw [wrapU8 (by omega), wrap64 (x := ((s.data.toList.getD k 0).toNat : Int) - 48) (by omega), wrap64 (by omega), hsz]
    repeat' (first | refine awp_seqK fun K hK => ?_ | (refine awp_regionK 549898420285 rfl ?_; simp only [List.map_cons, List.map_nil]; simp (maxSteps := 1000000) (dsimp := false) (implicitDefEqProofs := false) (disch := omega) only [wrap64, go_sem]) | (refine awp_regionQK 549898420285 (by kernel_rfl) (by kernel_rfl) (by kernel_rfl) ?_; simp only [List.map_cons, List.map_nil]; simp (maxSteps := 1000000) (dsimp := false) (implicitDefEqProofs := false) (disch := omega) only [wrap64, go_sem]) | refine awp_block ?_ | (refine awp_skip ?_; simp only [go_sem]) | (refine awp_exit ?_; simp only [go_sem]) | (refine awp_ret ?_; try simp only [go_sem]) | (refine awp_condP rfl ?_; try simp only [go_sem]) | (refine BrP.mk (fun h => ?_) (fun h => ?_) <;> try simp (dsimp := false) (disch := omega) only [wrap64]) | (refine Br.mk (fun h => ?_) (fun h => ?_) <;> try simp (dsimp := false) (disch := omega) only [wrap64]) | refine Ob.mk (by first | omega | (intro _ _; rfl) | trivial | (intros; trivial) | assumption | (intro i hi; have h0 : i = 0 := (by omega); subst h0; first | rfl | trivial) | (intro i hi; have h0 : i = 0 ∨ i = 1 := (by omega); rcases h0 with rfl | rfl <;> rfl) | (intro i hi; have h0 : i = 0 ∨ i = 1 ∨ i = 2 := (by omega); rcases h0 with rfl | rfl | rfl <;> rfl)) ?_ | apply_assumption -exfalso -symm)
    all_goals (first | (show endQ _ _ _ _ _ _ _; (repeat (rename (∀ (A : Fr) (H : Hp), AWP _ _ _ _ A H → _) => hK; clear hK)); (repeat (rename (Fr → Hp → Prop) => K; clear K))) | (show Exists _; (repeat (rename (∀ (A : Fr) (H : Hp), AWP _ _ _ _ A H → _) => hK; clear hK)); (repeat (rename (Fr → Hp → Prop) => K; clear K))) | skip)
    · have hn : ¬ okI s := fun h => by have := h.2.2 k (by omega); omega
      rw [show pvP s = 0 from if_neg hn, decide_eq_false hn]
      exact end_T2 rfl (by decide) rfl rfl (.refl _) (.refl _)
    · have hn : ¬ okI s := fun h => by have := h.2.2 k (by omega); omega
      rw [show pvP s = 0 from if_neg hn, decide_eq_false hn]
      exact end_T2 rfl (by decide) rfl rfl (.refl _) (.refl _)
    · rw [hw8 (by omega) (by omega) (by omega)]
      refine ⟨k + 1, ⟨by omega, h1, h2, ⟨fun j hj => ?_⟩⟩, by omega, Sub.toL (by simp only [go_sem] <;> first | trivial | (simp only [Option.some.injEq, AV.v.injEq, AV.own.injEq, AV.list.injEq, Value.int.injEq, Value.bool.injEq, true_and, and_true]; first | omega | (simp; done)) | (simp; done) | (simp; omega)) (Hp.le_refl _)⟩
      by_cases e : j = k
      · rw [e]; omega
      · exact h3.h j (by omega)
    · have ek : k = s.size := by omega
      have hn : okI s := ⟨h1, h2, by rw [← ek]; exact h3.h⟩
      rw [show pvP s = pvS s s.size from if_pos hn, decide_eq_true hn, ek]
      exact end_T2 rfl (by decide) rfl rfl (.refl _) (.refl _)
end Go.Proofs.Ytngpacdhpblpbaa
end
