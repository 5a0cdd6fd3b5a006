import Derived.Test.YticbabpajligbaaDoorM25
import Derived.Test.YticbabpajligbaaDoorM27
import Derived.Test.YticbabpajligbaaDoorM31
namespace Go.Proofs.YticbabpajligbaaDoor
open Go.Av
set_option linter.unusedSimpArgs false
set_option linter.unusedVariables false
attribute [local irreducible] AWP CallG Ob Br BrP Go.Av.Sub endQ AOps OpV AC thenA blkA opsVC opVC withA withArgs opsQ opQ CallQ withA2 withArgs2
open Go.Wd (inv)
theorem isW8_2 {w : List Int} (h : isW 2 w) : isW 8 w := ⟨h.1, fun j hj => by
  have := h.2 j hj
  unfold isL at *
  omega⟩
theorem isW_app2 {a b : List Int} (ha : isW 2 a) (hb : isW 2 b) (hl : (a ++ b).length ≤ 200) : isW 2 (a ++ b) := ⟨hl, fun j hj => by
  rw [List.getD_eq_getElem?_getD]
  by_cases h : j < a.length
  · rw [List.getElem?_append_left h, ← List.getD_eq_getElem?_getD]; exact ha.2 j h
  · rw [List.length_append] at hj
    rw [List.getElem?_append_right (by omega), ← List.getD_eq_getElem?_getD]; exact hb.2 _ (by omega)⟩
theorem invP_8 {w : List Int} (h : isW 2 w) : invP w = inv w := if_pos (isW8_2 h)
theorem comm_eq {a b : List Int} (ha : isW 2 a) (hb : isW 2 b) (hal : a.length ≤ 8) (hbl : b.length ≤ 8) : commP a b = (a ++ b ++ inv a ++ inv b, true) := by
  have h1 := isW8_2 ha
  have h2 := isW8_2 hb
  have h3 := isW_inv h1
  have h4 := isW_inv h2
  have l1 := inv_length a
  have l2 := inv_length b
  unfold commP joinP
  rw [if_pos]
  · simp
  · refine ⟨fun j hj => ?_, by simp only [List.flatten_cons, List.flatten_nil, List.append_nil, List.length_append]; omega⟩
    match j, hj with
    | 0, _ => exact h1
    | 1, _ => exact h2
    | 2, _ => exact h3
    | 3, _ => exact h4
theorem fits_ap {H : Hp} {D : Nat → Prop} {h n : Nat} {f : Nat → AV} {xs : List Int} (hH : H h = some (.cells n f)) (hD : D h) (hn : n = xs.length) (hf : ∀ i, i < n → f i = cM iv 0 xs i) : Fits H D (.own h 0 1 n) (ints xs) := by
  subst hn
  refine .own hH hD (by omega) (fun _ _ => trivial) fun i hi => ?_
  rw [Nat.zero_add]
  exact .ofEq (hf i (by omega))
theorem ap2 (z : Nat → AV) (a b : List Int) : ∀ i, i < a.length + b.length → apF a.length (apF 0 z (cM iv 0 a)) (cM iv 0 b) i = cM iv 0 (a ++ b) i := fun i hi => by
  by_cases h : i < a.length
  · simp [apF, cM, List.getD_eq_getElem?_getD, List.getElem?_append, h]
  · simp [apF, cM, List.getD_eq_getElem?_getD, List.getElem?_append, h]
set_option maxHeartbeats 8000000 in
theorem lawFnNotationExpansion_ok (xs : List Int) (hl : xs.length ≤ 9223372036854775807) (hb : ∀ j, 0 ≤ xs.getD j 0 ∧ xs.getD j 0 ≤ 255) : AC Tryd.prog 6 [bts xs] Hp.emp (fun _ => false) (retV (.v (.bool (true)))) := by
  have mk := Hold.mk True.intro
  refine ac_of_awp (N := ⟨_, fun _ => false, fun _ _ => rfl, true⟩) Tryd.func6 rfl (by kernel_rfl) Tryd.ntmps6 (by simp) ?_
  simp only [argsFr, List.zipIdx_cons, List.zipIdx_nil, go_sem]
  repeat' (first | ((first | refine atF (f := 18) ?_ | refine atQ (f := 18) ?_); (refine callRoll (roll_ok xs 1102 hb (by omega)) rfl (fun d0 => ?_)) <;> simp (maxSteps := 1000000) (dsimp := false) (implicitDefEqProofs := false) (disch := omega) only [wrap64, go_sem]) | ((first | refine atF (f := 25) ?_ | refine atQ (f := 25) ?_); (refine callD (by rfl) (w9Word_ok _ 2 4 (by omega) (by omega)) (by rintro _ ⟨v, _, rfl⟩ q; rfl) (fun r d2 hq => ?_); first | (clear mk; obtain ⟨a, ⟨ha, hal⟩, rfl⟩ := hq) | obtain ⟨b, ⟨hb2, hbl⟩, rfl⟩ := hq) <;> simp (maxSteps := 1000000) (dsimp := false) (implicitDefEqProofs := false) (disch := omega) only [wrap64, go_sem]) | refine awp_seqK fun K hK => ?_ | (refine awp_regionK 19807040628566084415567429629 rfl ?_; simp only [List.map_cons, List.map_nil]; simp (maxSteps := 1000000) (dsimp := false) (implicitDefEqProofs := false) (disch := omega) only [wrap64, go_sem]) | (refine awp_regionQK 19807040628566084415567429629 (by kernel_rfl) (by kernel_rfl) (by kernel_rfl) ?_; simp only [List.map_cons, List.map_nil]; simp (maxSteps := 1000000) (dsimp := false) (implicitDefEqProofs := false) (disch := omega) only [wrap64, go_sem]) | refine awp_block ?_ | (refine awp_skip ?_; simp only [go_sem]) | (refine awp_exit ?_; simp only [go_sem]) | (refine awp_ret ?_; try simp only [go_sem]) | (refine awp_condP rfl ?_; try simp only [go_sem]) | (refine BrP.mk (fun h => ?_) (fun h => ?_) <;> try simp (dsimp := false) (disch := omega) only [wrap64]) | (refine Br.mk (fun h => ?_) (fun h => ?_) <;> try simp (dsimp := false) (disch := omega) only [wrap64]) | refine Ob.mk (by first | omega | (intro _ _; rfl) | trivial | (intros; trivial) | assumption | (intro i hi; have h0 : i = 0 := (by omega); subst h0; first | rfl | trivial) | (intro i hi; have h0 : i = 0 ∨ i = 1 := (by omega); rcases h0 with rfl | rfl <;> rfl) | (intro i hi; have h0 : i = 0 ∨ i = 1 ∨ i = 2 := (by omega); rcases h0 with rfl | rfl | rfl <;> rfl)) ?_ | ((first | ((first | refine atF (f := 17) ?_ | refine atQ (f := 17) ?_); (first | (refine cV (hac := big_ok xs) (hK := ?_)) | (refine cQV (hac := big_ok xs) (hK := ?_))))); simp (maxSteps := 1000000) (dsimp := false) (implicitDefEqProofs := false) (disch := omega) only [wrap64, go_sem]) | apply_assumption -exfalso -symm)
  all_goals (first | (show endQ _ _ _ _ _ _ _; (repeat (rename (∀ (A : Fr) (H : Hp), AWP _ _ _ _ A H → _) => hK; clear hK)); (repeat (rename (Fr → Hp → Prop) => K; clear K))) | (show Exists _; (repeat (rename (∀ (A : Fr) (H : Hp), AWP _ _ _ _ A H → _) => hK; clear hK)); (repeat (rename (Fr → Hp → Prop) => K; clear K))) | skip)
  all_goals first | exact end_retV rfl rfl | skip
  have ha : isW 2 a := ha
  have hb2 : isW 2 b := hb2
  have h1 : ¬ (a.length : Int) = 0 := by assumption
  have h2 : ¬ (b.length : Int) = 0 := by assumption
  have hal : a.length ≤ 4 := by omega
  have hbl : b.length ≤ 4 := by omega
  have ha0 : a ≠ [] := fun e => by rw [e] at h1; exact h1 rfl
  have hb0 : b ≠ [] := fun e => by rw [e] at h2; exact h2 rfl
  have p1 := pw_comm ha hb2 ha0 hb0 (by omega) (by omega)
  have p2 := pw_conj ha hb2 ha0 hb0 (by omega) (by omega)
  have p3 := pw_twice ha hb2 ha0 hb0 (by omega) (by omega)
  have hsa := fw_size ha
  have hsb := fw_size hb2
  have l1 := inv_length a
  have l2 := inv_length b
  have c1 := implFormatWord_ok nmAB a (by decide) (by omega)
  have c2 := implFormatWord_ok nmAB b (by decide) (by omega)
  have c3 := fun d => specCommutator_ok a b (by omega) (by omega) d
  rw [comm_eq ha hb2 (by omega) (by omega)] at c3
  have c4 := fun d => specInvertWord_ok a d
  rw [invP_8 ha] at c4
  have hab := isW_app2 (isW_app2 ha hb2 (by rw [List.length_append]; omega)) (isW_app2 ha hb2 (by rw [List.length_append]; omega)) (by rw [List.length_append, List.length_append]; omega)
  have c5 := fun d => specInvertWord_ok (a ++ b ++ (a ++ b)) d
  rw [invP_8 hab] at c5
  obtain ⟨S, eS⟩ : ∃ S, S = fwP nmAB a := ⟨_, rfl⟩
  obtain ⟨T, eT⟩ : ∃ T, T = fwP nmAB b := ⟨_, rfl⟩
  rw [← eS] at c1 p1 p2 p3 hsa
  rw [← eT] at c2 p1 p2 p3 hsb
  have e1 : ∀ c : UInt8, (⟨#[c]⟩ : ByteArray).size = 1 := fun _ => rfl
  have e3 : (⟨#[41, 50, 39]⟩ : ByteArray).size = 3 := rfl
  have c6 := fun d => implParseWord_ok nmAB ((⟨#[91]⟩ : ByteArray) ++ S ++ ⟨#[44]⟩ ++ T ++ ⟨#[93]⟩) (by decide) (by simp only [ByteArray.size_append, e1]; omega) d
  rw [p1] at c6
  have c7 := fun d => implParseWord_ok nmAB ((⟨#[91]⟩ : ByteArray) ++ S ++ ⟨#[58]⟩ ++ T ++ ⟨#[93]⟩) (by decide) (by simp only [ByteArray.size_append, e1]; omega) d
  rw [p2] at c7
  have c8 := fun d => implParseWord_ok nmAB ((⟨#[40]⟩ : ByteArray) ++ S ++ ⟨#[32]⟩ ++ T ++ ⟨#[41, 50, 39]⟩) (by decide) (by simp only [ByteArray.size_append, e1, e3]; omega) d
  rw [p3] at c8
  have n1 : (a ++ b).length ≤ 8 := by rw [List.length_append]; omega
  have n2 : (a ++ b ++ inv a).length ≤ 12 := by rw [List.length_append]; omega
  have k1 := likeInts_ok (a ++ b ++ inv a ++ inv b) (a ++ b ++ inv a ++ inv b) (by simp only [List.length_append]; omega)
  have k2 := likeInts_ok (a ++ b ++ inv a) (a ++ b ++ inv a) (by simp only [List.length_append]; omega)
  have k3 := likeInts_ok (inv (a ++ b ++ (a ++ b))) (inv (a ++ b ++ (a ++ b))) (by rw [inv_length]; simp only [List.length_append]; omega)
  rw [decide_eq_true rfl] at k1 k2 k3
  have c1 := Hold.mk c1
  have c2 := Hold.mk c2
  have c3 := Hold.mk c3
  have c4 := Hold.mk c4
  have c5 := Hold.mk c5
  have c6 := Hold.mk c6
  have c7 := Hold.mk c7
  have c8 := Hold.mk c8
  have k1 := Hold.mk k1
  have k2 := Hold.mk k2
  have k3 := Hold.mk k3
  have e1 := Hold.mk e1
  have hb := Hold.mk hb
  clear p1 p2 p3 eS eT ha hb2 hab h1 h2 ha0 hb0 e3
  repeat' (first | (refine awp_cutR 17 16 (A' := [(16, ints (a ++ b)), (4, ints a), (12, ints (a ++ b ++ inv a)), (14, ints (inv (a ++ b ++ (a ++ b))))]) (H' := Hp.emp) (Sub.toFF (fun x => x = 95) (Fr.fit_cons rfl (fits_ap rfl rfl (by simp only [List.length_append]) (ap2 _ a b)) (Fr.fit_cons rfl (.refl _) (Fr.fit_cons rfl (.refl _) (Fr.fit_cons rfl (.refl _) (Fr.fit_nil _))))) leF_emp) ?_) | (refine awp_cutR 18 17 (A' := [(17, ints (a ++ b ++ inv a)), (16, ints (a ++ b)), (12, ints (a ++ b ++ inv a)), (14, ints (inv (a ++ b ++ (a ++ b))))]) (H' := Hp.emp) (Sub.toFF (fun x => x = 100) (Fr.fit_cons rfl (fits_ap rfl rfl (by simp only [List.length_append]) (ap2 _ (a ++ b) (inv a))) (Fr.fit_cons rfl (.refl _) (Fr.fit_cons rfl (.refl _) (Fr.fit_cons rfl (.refl _) (Fr.fit_nil _))))) leF_emp) ?_) | refine awp_seqK fun K hK => ?_ | (refine awp_regionK 19807040628566084415567429629 rfl ?_; simp only [List.map_cons, List.map_nil]; simp (maxSteps := 1000000) (dsimp := false) (implicitDefEqProofs := false) (disch := omega) only [wrap64, go_sem, Nat.le_refl]) | (refine awp_regionQK 19807040628566084415567429629 (by kernel_rfl) (by kernel_rfl) (by kernel_rfl) ?_; simp only [List.map_cons, List.map_nil]; simp (maxSteps := 1000000) (dsimp := false) (implicitDefEqProofs := false) (disch := omega) only [wrap64, go_sem, Nat.le_refl]) | refine awp_block ?_ | (refine awp_skip ?_; simp only [go_sem, Nat.le_refl]) | (refine awp_exit ?_; simp only [go_sem, Nat.le_refl]) | (refine awp_ret ?_; try simp only [go_sem, Nat.le_refl]) | (refine awp_condP rfl ?_; try simp only [go_sem, Nat.le_refl]) | (refine BrP.mk (fun h => ?_) (fun h => ?_) <;> try simp (dsimp := false) (disch := omega) only [wrap64]) | (refine Br.mk (fun h => ?_) (fun h => ?_) <;> try simp (dsimp := false) (disch := omega) only [wrap64]) | refine Ob.mk (by first | omega | (intro _ _; rfl) | trivial | (intros; trivial) | assumption | (intro i hi; have h0 : i = 0 := (by omega); subst h0; first | rfl | trivial) | (intro i hi; have h0 : i = 0 ∨ i = 1 := (by omega); rcases h0 with rfl | rfl <;> rfl) | (intro i hi; have h0 : i = 0 ∨ i = 1 ∨ i = 2 := (by omega); rcases h0 with rfl | rfl | rfl <;> rfl)) ?_ | ((first | ((first | refine atF (f := 29) ?_ | refine atQ (f := 29) ?_); (first | refine cFI (hac := c4.h 42) (hK := ?_) | refine cFI (hac := c5.h 43) (hfit := .cons (fits_ap rfl trivial (by simp only [List.length_append]) (ap2 _ (a ++ b) (a ++ b))) .nil) (hK := ?_) | refine cQI (hac := c4.h 42) (hK := ?_))) | ((first | refine atF (f := 10) ?_ | refine atQ (f := 10) ?_); (first | refine cV (hfit := .cons (.refl _) (.cons (.refl _) .nil)) (hac := c1.h) (hK := ?_) | refine cV (hfit := .cons (.refl _) (.cons (.refl _) .nil)) (hac := c2.h) (hK := ?_))) | ((first | refine atF (f := 26) ?_ | refine atQ (f := 26) ?_); (refine cFIB (hac := c3.h 40) (hK := ?_))) | ((first | refine atF (f := 27) ?_ | refine atQ (f := 27) ?_); (first | refine cFIB (hac := c6.h 41) (hK := ?_) | refine cFIB (hac := c7.h 41) (hK := ?_) | refine cFIB (hac := c8.h 41) (hK := ?_))) | ((first | refine atF (f := 28) ?_ | refine atQ (f := 28) ?_); (first | refine cV (hfit := .cons (.refl _) (.cons (.refl _) .nil)) (hac := k1.h) (hK := ?_) | refine cV (hfit := .cons (.refl _) (.cons (.refl _) .nil)) (hac := k2.h) (hK := ?_) | refine cV (hfit := .cons (.refl _) (.cons (.refl _) .nil)) (hac := k3.h) (hK := ?_) | refine cQV (hfit := .cons (.refl _) (.cons (.refl _) .nil)) (hac := k1.h) (hK := ?_)))); simp (maxSteps := 1000000) (dsimp := false) (implicitDefEqProofs := false) (disch := omega) only [wrap64, go_sem, Nat.le_refl]) | apply_assumption -exfalso -symm)
  all_goals (first | (show endQ _ _ _ _ _ _ _; (repeat (rename (∀ (A : Fr) (H : Hp), AWP _ _ _ _ A H → _) => hK; clear hK)); (repeat (rename (Fr → Hp → Prop) => K; clear K))) | (show Exists _; (repeat (rename (∀ (A : Fr) (H : Hp), AWP _ _ _ _ A H → _) => hK; clear hK)); (repeat (rename (Fr → Hp → Prop) => K; clear K))) | skip)
  all_goals first | exact end_retV rfl rfl | (exfalso; omega)
end Go.Proofs.YticbabpajligbaaDoor
