import Derived.Test.YtcfnbahpdlmcpaaL11
namespace Go.Proofs.Ytcfnbahpdlmcpaa
open Go.Av
set_option linter.unusedSimpArgs false
set_option linter.unusedVariables false
attribute [local irreducible] AWP CallG Ob Br BrP Go.Av.Sub endQ AOps OpV AC thenA blkA opsVC opVC withA withArgs opsQ opQ CallQ withA2 withArgs2
open Go.Wd (fr)
theorem drawFreeReduce_ok (xs : List Int) (hx : ∀ j, 0 ≤ xs.getD j 0 ∧ xs.getD j 0 ≤ 255) (hl : xs.length ≤ 4096) : AC Try.prog 19 [bts xs] Hp.emp (fun _ => false) (postX fun r => ∃ w : List Int, (w.length ≤ 201 ∧ ∀ x ∈ w, r64 x) ∧ r = ints w) := by
  refine ac_of_awp (N := ⟨_, fun _ => false, fun _ _ => rfl⟩) Try.func19 rfl (by kernel_rfl) Try.ntmps19 (by simp) ?_
  simp only [argsFr, List.zipIdx_cons, List.zipIdx_nil, go_sem]
  repeat' (first | ((first | refine atF (f := 122) ?_ | refine atQ (f := 122) ?_); (refine callRoll (newSource_ok xs hx hl) rfl (fun d0 => ?_)) <;> simp (maxSteps := 1000000) (dsimp := false) (implicitDefEqProofs := false) (disch := omega) only [wrap64, go_sem]) | ((first | refine atF (f := 123) ?_ | refine atQ (f := 123) ?_); (refine callD (by rfl) (sDrawAnyWord_ok _) (by rintro _ ⟨v, _, rfl⟩ _; rfl) (fun r d1 hq => ?_); obtain ⟨w, hw, rfl⟩ := hq) <;> simp (maxSteps := 1000000) (dsimp := false) (implicitDefEqProofs := false) (disch := omega) only [wrap64, go_sem]) | refine awp_seqK fun K hK => ?_ | (refine awp_regionK 13 rfl ?_; simp only [List.map_cons, List.map_nil]; simp (maxSteps := 1000000) (dsimp := false) (implicitDefEqProofs := false) (disch := omega) only [wrap64, go_sem]) | (refine awp_regionQK 13 (by kernel_rfl) (by kernel_rfl) (by kernel_rfl) ?_; simp only [List.map_cons, List.map_nil]; simp (maxSteps := 1000000) (dsimp := false) (implicitDefEqProofs := false) (disch := omega) only [wrap64, go_sem]) | refine awp_block ?_ | (refine awp_skip ?_; simp only [go_sem]) | (refine awp_exit ?_; simp only [go_sem]) | (refine awp_ret ?_; try simp only [go_sem]) | (refine awp_condP rfl ?_; try simp only [go_sem]) | (refine BrP.mk (fun h => ?_) (fun h => ?_) <;> try simp (dsimp := false) (disch := omega) only [wrap64]) | (refine Br.mk (fun h => ?_) (fun h => ?_) <;> try simp (dsimp := false) (disch := omega) only [wrap64]) | refine Ob.mk (by first | omega | (intro _ _; rfl) | trivial | (intros; trivial) | assumption | (intro i hi; have h0 : i = 0 := (by omega); subst h0; first | rfl | trivial) | (intro i hi; have h0 : i = 0 ∨ i = 1 := (by omega); rcases h0 with rfl | rfl <;> rfl) | (intro i hi; have h0 : i = 0 ∨ i = 1 ∨ i = 2 := (by omega); rcases h0 with rfl | rfl | rfl <;> rfl)) ?_ | apply_assumption -exfalso -symm)
  all_goals (first | (show endQ _ _ _ _ _ _ _; (repeat (rename (∀ (A : Fr) (H : Hp), AWP _ _ _ _ A H → _) => hK; clear hK)); (repeat (rename (Fr → Hp → Prop) => K; clear K))) | (show Exists _; (repeat (rename (∀ (A : Fr) (H : Hp), AWP _ _ _ _ A H → _) => hK; clear hK)); (repeat (rename (Fr → Hp → Prop) => K; clear K))) | skip)
  exact end_X rfl rfl (.refl _) ⟨w, hw, rfl⟩
theorem mem_getD' {w : List Int} {j : Nat} (h : j < w.length) : w.getD j 0 ∈ w := by
  rw [List.getD_eq_getElem?_getD, List.getElem?_eq_getElem h]; exact List.getElem_mem h
theorem isW_of {w v : List Int} (h : isW 8 w) (hl : v.length ≤ 200) (hm : ∀ x ∈ v, x ∈ w) : isW 8 v := ⟨hl, fun j hj => by
  obtain ⟨i, hi, e⟩ := List.mem_iff_getElem.1 (hm _ (mem_getD' hj))
  have := h.2 i hi
  rw [List.getD_eq_getElem?_getD, List.getElem?_eq_getElem hi, Option.getD_some, e] at this
  exact this⟩
theorem isW_frW {w : List Int} : isW 8 (frW w) := by
  unfold frW
  split
  · rename_i h
    have := Go.Wd.fr_len w
    exact isW_of h (by have := h.1; omega) fun x hx => Go.Wd.mem_fr hx
  · exact ⟨by simp, fun j hj => absurd hj (by simp)⟩
theorem frW_red (w : List Int) : Go.Wd.red (frW w) := by
  unfold frW; split
  · exact Go.Wd.red_fr w
  · exact Go.Wd.red_nil
theorem frW_idem (w : List Int) : frW (frW w) = frW w := by
  rw [show frW (frW w) = fr (frW w) from if_pos isW_frW]
  exact Go.Wd.fr_of_red (frW_red w)
/-- A word behind its inverse: nothing is left. -/
theorem both_ok {w : List Int} (h : isW 8 w) (h2 : (joinP [w, invP w]).2 = true) : frW (joinP [w, invP w]).1 = [] := by
  unfold joinP at h2 ⊢
  by_cases hc : (∀ j, j < [w, invP w].length → isW 8 ([w, invP w].getD j [])) ∧ [w, invP w].flatten.length ≤ 200
  · rw [if_pos hc]
    have e : [w, invP w].flatten = w ++ inv w := by
      simp only [List.flatten_cons, List.flatten_nil, List.append_nil]
      rw [show invP w = inv w from if_pos h]
    dsimp only
    rw [e]
    unfold frW
    split
    · rw [show inv w = Go.Wd.inv w from rfl]; exact Go.Wd.fr_inv w
    · rfl
  · rw [if_neg hc] at h2; cases h2
theorem wl_ok (w : List Int) : wlP w 2 ≤ wlP w 1 ∧ (0 ≤ wlP w 1 → wlP w 1 = ((frW w).length : Nat)) := by
  unfold wlP frW
  by_cases h : isW 8 w
  · have e2 : (if isW 8 w ∧ 1 ≤ (2 : Int) ∧ (2 : Int) ≤ 2 then (if (2 : Int) = 1 then ((fr w).length : Int) else (Go.Wd.runN smB (fr w) (fr w).length : Int)) else -1) = (Go.Wd.runN smB (fr w) (fr w).length : Int) := by rw [if_pos ⟨h, by decide, by decide⟩, if_neg (by decide)]
    have e1 : (if isW 8 w ∧ 1 ≤ (1 : Int) ∧ (1 : Int) ≤ 2 then (if (1 : Int) = 1 then ((fr w).length : Int) else (Go.Wd.runN smB (fr w) (fr w).length : Int)) else -1) = ((fr w).length : Int) := by rw [if_pos ⟨h, by decide, by decide⟩, if_pos rfl]
    rw [e1, e2, if_pos h]
    have := Go.Wd.runN_le smB (fr w) (fr w).length
    exact ⟨by omega, fun _ => rfl⟩
  · rw [if_neg (fun h2 => h h2.1), if_neg (fun h2 => h h2.1)]
    exact ⟨by omega, fun h => by omega⟩
set_option maxHeartbeats 8000000 in
theorem lawFreeReduction_ok (xs : List Int) (hl : xs.length ≤ 9223372036854775807) (hb : ∀ j, 0 ≤ xs.getD j 0 ∧ xs.getD j 0 ≤ 255) : AC Try.prog 3 [bts xs] Hp.emp (fun _ => false) (retV (.v (.bool (true)))) := by
  refine ac_of_awp (N := ⟨_, fun _ => false, fun _ _ => rfl⟩) Try.func3 rfl (by kernel_rfl) Try.ntmps3 (by simp) ?_
  simp only [argsFr, List.zipIdx_cons, List.zipIdx_nil, go_sem]
  repeat' (first | ((first | refine atF (f := 19) ?_ | refine atQ (f := 19) ?_); (refine callX (drawFreeReduce_ok xs hb (by omega)) (by rintro _ ⟨w, _, rfl⟩ q; rfl) (fun r hq => ?_); obtain ⟨w, ⟨hw1, hw2⟩, rfl⟩ := hq; have hfl := frW_len w; have hid := frW_idem w) <;> simp (maxSteps := 1000000) (dsimp := false) (implicitDefEqProofs := false) (disch := omega) only [wrap64, go_sem]) | refine awp_seqK fun K hK => ?_ | (refine awp_regionK 9223407225656052733 rfl ?_; simp only [List.map_cons, List.map_nil]; simp (maxSteps := 1000000) (dsimp := false) (implicitDefEqProofs := false) (disch := omega) only [wrap64, go_sem]) | (refine awp_regionQK 9223407225656052733 (by kernel_rfl) (by kernel_rfl) (by kernel_rfl) ?_; simp only [List.map_cons, List.map_nil]; simp (maxSteps := 1000000) (dsimp := false) (implicitDefEqProofs := false) (disch := omega) only [wrap64, go_sem]) | refine awp_block ?_ | (refine awp_skip ?_; simp only [go_sem]) | (refine awp_exit ?_; simp only [go_sem]) | (refine awp_ret ?_; try simp only [go_sem]) | (refine awp_condP rfl ?_; try simp only [go_sem]) | (refine BrP.mk (fun h => ?_) (fun h => ?_) <;> try simp (dsimp := false) (disch := omega) only [wrap64]) | (refine Br.mk (fun h => ?_) (fun h => ?_) <;> try simp (dsimp := false) (disch := omega) only [wrap64]) | refine Ob.mk (by first | omega | (intro _ _; rfl) | trivial | (intros; trivial) | assumption | (intro i hi; have h0 : i = 0 := (by omega); subst h0; first | rfl | trivial) | (intro i hi; have h0 : i = 0 ∨ i = 1 := (by omega); rcases h0 with rfl | rfl <;> rfl) | (intro i hi; have h0 : i = 0 ∨ i = 1 ∨ i = 2 := (by omega); rcases h0 with rfl | rfl | rfl <;> rfl)) ?_ | ((first | ((first | refine atF (f := 18) ?_ | refine atQ (f := 18) ?_); (first | (refine cV (hac := big_ok xs) (hK := ?_)) | (refine cQV (hac := big_ok xs) (hK := ?_)))) | ((first | refine atF (f := 20) ?_ | refine atQ (f := 20) ?_); (first | (refine cFI (hac := implFreeReduceX_ok w 100) (hK := ?_)) | (refine cQI (hac := implFreeReduceX_ok w 100) (hK := ?_)))) | ((first | refine atF (f := 22) ?_ | refine atQ (f := 22) ?_); (first | (refine cFI (hac := specFreeReduceX_ok w 101) (hK := ?_)) | (refine cQI (hac := specFreeReduceX_ok w 101) (hK := ?_)))) | ((first | refine atF (f := 21) ?_ | refine atQ (f := 21) ?_); (first | (refine cV (hac := likeInts_ok (frW w) (frW w) (by omega)) (hK := ?_)) | (refine cQV (hac := likeInts_ok (frW w) (frW w) (by omega)) (hK := ?_)))) | ((first | refine atF (f := 20) ?_ | refine atQ (f := 20) ?_); (first | (refine cFI (hac := implFreeReduceX_ok (frW w) 102) (hK := ?_)) | (refine cQI (hac := implFreeReduceX_ok (frW w) 102) (hK := ?_)))) | ((first | refine atF (f := 21) ?_ | refine atQ (f := 21) ?_); (first | (refine cV (hac := likeInts_ok (frW (frW w)) (frW w) (by have := frW_len (frW w); omega)) (hK := ?_)) | (refine cQV (hac := likeInts_ok (frW (frW w)) (frW w) (by have := frW_len (frW w); omega)) (hK := ?_))))); simp (maxSteps := 1000000) (dsimp := false) (implicitDefEqProofs := false) (disch := omega) only [wrap64, go_sem]) | apply_assumption -exfalso -symm)
  all_goals (first | (show endQ _ _ _ _ _ _ _; (repeat (rename (∀ (A : Fr) (H : Hp), AWP _ _ _ _ A H → _) => hK; clear hK)); (repeat (rename (Fr → Hp → Prop) => K; clear K))) | (show Exists _; (repeat (rename (∀ (A : Fr) (H : Hp), AWP _ _ _ _ A H → _) => hK; clear hK)); (repeat (rename (Fr → Hp → Prop) => K; clear K))) | skip)
  · exact end_retV rfl rfl
  · have hred := frW_red w
    have hwl := wl_ok w
    have hjl := joinP_len [w, invP w]
    have hboth : isW 8 w → (joinP [w, invP w]).2 = true → (frW (joinP [w, invP w]).1).length = 0 := fun h h2 => by rw [both_ok h h2]; rfl
    refine awp_loop (ι := Nat) (fun k => [(5, .v (.int .i64 (k))), (3, .list false 1 (w).length (cM iv 0 (w))), (4, .list false 1 (frW w).length (cM iv 0 (frW w)))]) (fun k => Hp.emp) (fun k => k ≤ (frW w).length) (fun k => (frW w).length - k) 0 ?_ (Sub.toL (by simp only [go_sem] <;> first | trivial | (simp only [Option.some.injEq, AV.v.injEq, AV.own.injEq, AV.list.injEq, Value.int.injEq, Value.bool.injEq, true_and, and_true]; first | omega | (simp; done)) | (simp; done) | (simp; omega)) (by (repeat' (first | exact Hp.le_emp _ | exact Hp.le_refl _ | refine Hp.le_upd ?_ ?_)); all_goals (first | rfl | (simp only [go_sem]; first | rfl | (refine cellsE ?_ ?_ <;> (simp)) | (simp))))) ?_
    · exact Nat.zero_le _
    intro k hk
    have hrk : Hold (k + 1 < (frW w).length → (frW w).getD k 0 ≠ -(frW w).getD (k + 1) 0) := ⟨hred k⟩
    have ek : ((k : Int) + 1).toNat = k + 1 := by omega
    have hbk : (frW w).getD (k + 1) 0 = (frW w).getD (k + 1) 0 ∧ -1000 ≤ (frW w).getD (k + 1) 0 ∧ (frW w).getD (k + 1) 0 ≤ 1000 := ⟨rfl, isW_bd isW_frW _⟩
    repeat' (first | refine awp_seqK fun K hK => ?_ | (refine awp_regionK 9223407225656052733 rfl ?_; simp only [List.map_cons, List.map_nil]; simp (maxSteps := 1000000) (dsimp := false) (implicitDefEqProofs := false) (disch := omega) only [wrap64, go_sem, ek]) | (refine awp_regionQK 9223407225656052733 (by kernel_rfl) (by kernel_rfl) (by kernel_rfl) ?_; simp only [List.map_cons, List.map_nil]; simp (maxSteps := 1000000) (dsimp := false) (implicitDefEqProofs := false) (disch := omega) only [wrap64, go_sem, ek]) | refine awp_block ?_ | (refine awp_skip ?_; simp only [go_sem, ek]) | (refine awp_exit ?_; simp only [go_sem, ek]) | (refine awp_ret ?_; try simp only [go_sem, ek]) | (refine awp_condP rfl ?_; try simp only [go_sem, ek]) | (refine BrP.mk (fun h => ?_) (fun h => ?_) <;> try simp (dsimp := false) (disch := omega) only [wrap64]) | (refine Br.mk (fun h => ?_) (fun h => ?_) <;> try simp (dsimp := false) (disch := omega) only [wrap64]) | refine Ob.mk (by first | omega | (intro _ _; rfl) | trivial | (intros; trivial) | assumption | (intro i hi; have h0 : i = 0 := (by omega); subst h0; first | rfl | trivial) | (intro i hi; have h0 : i = 0 ∨ i = 1 := (by omega); rcases h0 with rfl | rfl <;> rfl) | (intro i hi; have h0 : i = 0 ∨ i = 1 ∨ i = 2 := (by omega); rcases h0 with rfl | rfl | rfl <;> rfl)) ?_ | ((first | ((first | refine atF (f := 24) ?_ | refine atQ (f := 24) ?_); (first | (refine cFI (hac := implInvertWord_ok w 103) (hK := ?_)) | (refine cQI (hac := implInvertWord_ok w 103) (hK := ?_)))) | ((first | refine atF (f := 23) ?_ | refine atQ (f := 23) ?_); (first | (refine cIBf (hac := implConcatX_ok w (invP w) 104) (hK := ?_)) | (refine cQIB (hac := implConcatX_ok w (invP w) 104) (hK := ?_)) | (refine cFIB (hac := implConcatX_ok w (invP w) 104) (hK := ?_)))) | ((first | refine atF (f := 25) ?_ | refine atQ (f := 25) ?_); (first | (refine cV (hac := specIsValidWord_ok 8 w) (hK := ?_)) | (refine cQV (hac := specIsValidWord_ok 8 w) (hK := ?_)))) | ((first | refine atF (f := 20) ?_ | refine atQ (f := 20) ?_); (first | (refine cFI (hac := implFreeReduceX_ok (joinP [w, invP w]).1 105) (hK := ?_)) | (refine cQI (hac := implFreeReduceX_ok (joinP [w, invP w]).1 105) (hK := ?_)))) | ((first | refine atF (f := 26) ?_ | refine atQ (f := 26) ?_); (first | (refine cV (hac := implWordLengthX_ok w 1) (hK := ?_)) | (refine cQV (hac := implWordLengthX_ok w 1) (hK := ?_)))) | ((first | refine atF (f := 26) ?_ | refine atQ (f := 26) ?_); (first | (refine cV (hac := implWordLengthX_ok w 2) (hK := ?_)) | (refine cQV (hac := implWordLengthX_ok w 2) (hK := ?_)))) | ((first | refine atF (f := 27) ?_ | refine atQ (f := 27) ?_); (first | (refine cV (hac := specWordLengthX_ok w 1) (hK := ?_)) | (refine cQV (hac := specWordLengthX_ok w 1) (hK := ?_)))) | ((first | refine atF (f := 27) ?_ | refine atQ (f := 27) ?_); (first | (refine cV (hac := specWordLengthX_ok w 2) (hK := ?_)) | (refine cQV (hac := specWordLengthX_ok w 2) (hK := ?_))))); simp (maxSteps := 1000000) (dsimp := false) (implicitDefEqProofs := false) (disch := omega) only [wrap64, go_sem, ek]) | apply_assumption -exfalso -symm)
    all_goals (first | (show endQ _ _ _ _ _ _ _; (repeat (rename (∀ (A : Fr) (H : Hp), AWP _ _ _ _ A H → _) => hK; clear hK)); (repeat (rename (Fr → Hp → Prop) => K; clear K))) | (show Exists _; (repeat (rename (∀ (A : Fr) (H : Hp), AWP _ _ _ _ A H → _) => hK; clear hK)); (repeat (rename (Fr → Hp → Prop) => K; clear K))) | skip)
    all_goals first
    | exact ⟨k + 1, by omega, by omega, Sub.toL (by simp only [go_sem] <;> first | trivial | (simp only [Option.some.injEq, AV.v.injEq, AV.own.injEq, AV.list.injEq, Value.int.injEq, Value.bool.injEq, true_and, and_true]; first | omega | (simp; done)) | (simp; done) | (simp; omega)) (Hp.le_refl _)⟩
    | exact end_retV rfl rfl
    | (refine end_retV' rfl rfl ?_; rw [show decide (wlP w 1 = ((frW w).length : Int)) = true from decide_eq_true (hwl.2 (by omega))])
    | exact absurd hwl.1 (by assumption)
    | (have h1 := hboth (by assumption) (by assumption); omega)
    | (have h1 := hrk.h (by omega); omega)
    | omega
  · exact absurd (frW_idem w) (by assumption)
end Go.Proofs.Ytcfnbahpdlmcpaa
