import Derived.Test.YtngpacdhpblpbaaC12
import Derived.Test.YtngpacdhpblpbaaC3
/- Words to the points of an orbit: the walk. -/
section
namespace Go.Proofs.Ytngpacdhpblpbaa
open Go.Av
set_option linter.unusedSimpArgs false
set_option linter.unusedVariables false
attribute [local irreducible] AWP CallG Ob Br BrP Go.Av.Sub endQ AOps OpV AC thenA blkA opsVC opVC withA withArgs opsQ opQ CallQ withA2 withArgs2
open Go.Pm (Pm Rch img comp invp)
def wV : Option (List Int) → AV
  | none => .v (.slice none 0 0)
  | some w => .list true 1 w.length (cM iv 0 w)
/-- The moves of the letters. -/
def mvL (gs : List (List Int)) (k : Nat) : List (List Int) := ((lets gs.length).take k).map (letP gs)
theorem mvL_len (gs : List (List Int)) (k : Nat) (hk : k ≤ (lets gs.length).length) : (mvL gs k).length = k := by unfold mvL; rw [List.length_map, List.length_take]; omega
theorem mvL_succ (gs : List (List Int)) (k : Nat) (hk : k < (lets gs.length).length) : mvL gs (k + 1) = mvL gs k ++ [letP gs ((lets gs.length).getD k 0)] := by
  unfold mvL
  rw [List.take_succ_eq_append_getElem hk, List.map_append]
  simp [hk]
theorem mvL_get (gs : List (List Int)) (k : Nat) (hk : k < (lets gs.length).length) : (mvL gs (lets gs.length).length).getD k [] = letP gs ((lets gs.length).getD k 0) := by
  unfold mvL
  rw [List.take_length]
  simp [List.getD_eq_getElem?_getD, hk]
theorem scF_wV (p : Nat → Bool) (ws : List (Option (List Int))) : scF p (cM wV none ws) = cM wV none ws := by
  funext i
  unfold scF cM
  cases ws.getD i none with
  | none => rfl
  | some w => rfl
theorem zF1w (x : Value) (i : Nat) : zF [x] i = .v x := by simp [zF, Nat.mod_one]
theorem fits_w0 {H : Hp} {D : Nat → Prop} {n x i : Nat} {p : Nat → Bool} {f : Nat → AV} (hx : x < n) (hi : i < n) : Fits H D (scF p (setF (zF [.slice none 0 0]) x (.list true 1 0 f)) i) (cM wV none ((List.replicate n none).set x (some [])) i) := by
  have hl : x < (List.replicate n (none : Option (List Int))).length := by rw [List.length_replicate]; exact hx
  unfold cM scF
  rw [getD_set hl]
  by_cases e : i = x
  · subst e
    rw [if_pos rfl, show setF (zF [.slice none 0 0]) i (.list true 1 0 f) i = .list true 1 0 f from if_pos rfl, scrub_list]
    exact .list (fun _ => .inl rfl) (fun j hj => absurd hj (by simp)) (fun j hj => absurd hj (by simp))
  · rw [if_neg e, show setF (zF [.slice none 0 0]) x (.list true 1 0 f) i = zF [.slice none 0 0] i from if_neg e, zF1w]
    have : (List.replicate n (none : Option (List Int))).getD i none = none := by
      rw [List.getD_eq_getElem?_getD, List.getElem?_replicate]; split <;> rfl
    rw [this]
    exact .refl _
theorem cloneT_ok (xs : List Int) (hx : xs.length ≤ 1048576) (d : Nat) : AC Try.prog 191 [.list true 1 xs.length (cM iv 0 xs)] Hp.emp (fun _ => false) (retI d xs) := by
  refine ac_of_awp (N := ⟨_, fun _ => false, fun _ _ => rfl⟩) Try.func191 rfl (by kernel_rfl) Try.ntmps191 (by simp) ?_
  simp only [argsFr, List.zipIdx_cons, List.zipIdx_nil, go_sem]
  repeat' (first | refine awp_seqK fun K hK => ?_ | (refine awp_regionK 21 rfl ?_; simp only [List.map_cons, List.map_nil]; simp (maxSteps := 1000000) (dsimp := false) (implicitDefEqProofs := false) (disch := omega) only [wrap64, go_sem]) | (refine awp_regionQK 21 (by kernel_rfl) (by kernel_rfl) (by kernel_rfl) ?_; simp only [List.map_cons, List.map_nil]; simp (maxSteps := 1000000) (dsimp := false) (implicitDefEqProofs := false) (disch := omega) only [wrap64, go_sem]) | refine awp_block ?_ | (refine awp_skip ?_; simp only [go_sem]) | (refine awp_exit ?_; simp only [go_sem]) | (refine awp_ret ?_; try simp only [go_sem]) | (refine awp_condP rfl ?_; try simp only [go_sem]) | (refine BrP.mk (fun h => ?_) (fun h => ?_) <;> try simp (dsimp := false) (disch := omega) only [wrap64]) | (refine Br.mk (fun h => ?_) (fun h => ?_) <;> try simp (dsimp := false) (disch := omega) only [wrap64]) | refine Ob.mk (by first | omega | (intro _ _; rfl) | trivial | (intros; trivial) | assumption | (intro i hi; have h0 : i = 0 := (by omega); subst h0; first | rfl | trivial) | (intro i hi; have h0 : i = 0 ∨ i = 1 := (by omega); rcases h0 with rfl | rfl <;> rfl) | (intro i hi; have h0 : i = 0 ∨ i = 1 ∨ i = 2 := (by omega); rcases h0 with rfl | rfl | rfl <;> rfl)) ?_ | apply_assumption -exfalso -symm)
  all_goals (first | (show endQ _ _ _ _ _ _ _; (repeat (rename (∀ (A : Fr) (H : Hp), AWP _ _ _ _ A H → _) => hK; clear hK)); (repeat (rename (Fr → Hp → Prop) => K; clear K))) | (show Exists _; (repeat (rename (∀ (A : Fr) (H : Hp), AWP _ _ _ _ A H → _) => hK; clear hK)); (repeat (rename (Fr → Hp → Prop) => K; clear K))) | skip)
  · have e : apF 0 (cM iv 0 (List.replicate 0 0)) (cM iv 0 xs) = cM iv 0 xs := by
      funext i; simp [apF]
    exact end_retI' rfl rfl (by show some (Blk.cells _ _) = _; rw [e]) rfl rfl rfl
theorem tn0 : Int.toNat 0 = 0 := rfl
theorem tn1 : Int.toNat 1 = 1 := rfl
theorem end_frz {P : Program} {N : Cx} {A : Fr} {H : Hp} {fn : Func} {t : Tmp} {a a' : AV} {post : AV → Hp → Prop} (hr : fn.results.toList = [.tmp t]) (h : A.get t = some a') (e : Fits H (fun _ => True) a' a) (hp : post a Hp.emp) : endQ P N fn post .ret A H := by
  unfold endQ
  refine ⟨[(t, a)], Hp.emp, Sub.toFF (fun _ => True) (Fr.fit_cons h e (Fr.fit_nil _)) leF_emp, ?_⟩
  rw [hr]
  simp only [resVC, Fr.get, if_true, withA_some]
  exact hp
theorem fits_wV {H : Hp} {h n : Nat} {ws : List (Option (List Int))} (hH : H h = some (.cells n (cM wV none ws))) : Fits H (fun _ => True) (.own h 0 1 n) (.list false 1 n (cM wV none ws)) := by
  refine .own hH trivial (by omega) (fun i _ => ?_) (fun i _ => by rw [Nat.zero_add]; exact .refl _)
  unfold cM
  cases ws.getD i none with
  | none => exact trivial
  | some w => exact trivial
set_option maxHeartbeats 4000000 in
theorem wordsFrom_ok (n : Nat) (gs : List (List Int)) (x : Nat) (hg : gensP n gs) (hx : x < n) (hl : gs.length ≤ 1000) : AC Try.prog 177 [.v (.int .i64 ((n : Nat))), intss gs, .v (.int .i64 ((x : Nat)))] Hp.emp (fun _ => false) (fun r H => ∃ ws, WP n gs x ws ∧ r = .list false 1 n (cM wV none ws) ∧ H = Hp.emp) := by
  have hn := hg.2.1
  have hll := lets_length gs.length
  have hg := Hold.mk hg
  refine ac_of_awp (N := ⟨_, fun _ => false, fun _ _ => rfl⟩) Try.func177 rfl (by kernel_rfl) Try.ntmps177 (by simp) ?_
  simp only [argsFr, List.zipIdx_cons, List.zipIdx_nil, go_sem]
  repeat' (first | (refine awp_regionJK (id := 2) 36894020311550327751 3 (by kernel_rfl) (by kernel_rfl) ?_; simp only [List.map_cons, List.map_nil, opsJ_succ, opsJ_0]; simp (maxSteps := 1000000) (dsimp := false) (implicitDefEqProofs := false) (disch := omega) only [wrap64, go_sem]) | refine awp_seqK fun K hK => ?_ | (refine awp_regionK 36894020311550327751 rfl ?_; simp only [List.map_cons, List.map_nil]; simp (maxSteps := 1000000) (dsimp := false) (implicitDefEqProofs := false) (disch := omega) only [wrap64, go_sem]) | (refine awp_regionQK 36894020311550327751 (by kernel_rfl) (by kernel_rfl) (by kernel_rfl) ?_; simp only [List.map_cons, List.map_nil]; simp (maxSteps := 1000000) (dsimp := false) (implicitDefEqProofs := false) (disch := omega) only [wrap64, go_sem]) | refine awp_block ?_ | (refine awp_skip ?_; simp only [go_sem]) | (refine awp_exit ?_; simp only [go_sem]) | (refine awp_ret ?_; try simp only [go_sem]) | (refine awp_condP rfl ?_; try simp only [go_sem]) | (refine BrP.mk (fun h => ?_) (fun h => ?_) <;> try simp (dsimp := false) (disch := omega) only [wrap64]) | (refine Br.mk (fun h => ?_) (fun h => ?_) <;> try simp (dsimp := false) (disch := omega) only [wrap64]) | refine Ob.mk (by first | omega | (intro _ _; rfl) | trivial | (intros; trivial) | assumption | (intro i hi; have h0 : i = 0 := (by omega); subst h0; first | rfl | trivial) | (intro i hi; have h0 : i = 0 ∨ i = 1 := (by omega); rcases h0 with rfl | rfl <;> rfl) | (intro i hi; have h0 : i = 0 ∨ i = 1 ∨ i = 2 := (by omega); rcases h0 with rfl | rfl | rfl <;> rfl)) ?_ | ((first | ((first | refine atF (f := 190) ?_ | refine atQ (f := 190) ?_); (first | (refine cFI (hac := letters_ok gs.length (by omega) 24) (hK := ?_)) | (refine cQI (hac := letters_ok gs.length (by omega) 24) (hK := ?_))))); simp (maxSteps := 1000000) (dsimp := false) (implicitDefEqProofs := false) (disch := omega) only [wrap64, go_sem]) | apply_assumption -exfalso -symm)
  all_goals (first | (show endQ _ _ _ _ _ _ _; (repeat (rename (∀ (A : Fr) (H : Hp), AWP _ _ _ _ A H → _) => hK; clear hK)); (repeat (rename (Fr → Hp → Prop) => K; clear K))) | (show Exists _; (repeat (rename (∀ (A : Fr) (H : Hp), AWP _ _ _ _ A H → _) => hK; clear hK)); (repeat (rename (Fr → Hp → Prop) => K; clear K))) | skip)
  refine awp_loop (ι := Nat) (fun k => [(27, .v (.int .i64 ((k : Nat)))), (26, .v (.int .i64 ((lets gs.length).length))), (25, .list false 1 (lets gs.length).length (cM iv 0 (lets gs.length))), (9, .own 30 0 1 k), (8, .list false 1 (lets gs.length).length (cM iv 0 (lets gs.length))), (7, .own 17 0 1 n), (1, .list false 1 (gs).length (cM ints [] (gs))), (2, .v (.int .i64 ((x : Nat))))]) (fun k => (Hp.emp.upd 17 (.cells n (cM wV none ((List.replicate n none).set x (some []))))).upd 30 (.cells k (cM ints [] (mvL gs k)))) (fun k => k ≤ (lets gs.length).length) (fun k => (lets gs.length).length - k) 0 (Nat.zero_le _) ?_ ?_
  · exact Sub.trans (Sub.nil (i := 9) 30 1 (cM ints [] []) rfl rfl) (Sub.toFF (fun _ => False) (Fr.fit_cons rfl (.refl _) (Fr.fit_cons rfl (.refl _) (Fr.fit_cons rfl (.refl _) (Fr.fit_cons rfl (.refl _) (Fr.fit_cons rfl (.refl _) (Fr.fit_cons rfl (.refl _) (Fr.fit_cons rfl (.refl _) (Fr.fit_cons rfl (.refl _) (Fr.fit_nil _))))))))) (leF_upd rfl (bfE rfl (fun i hi => absurd hi (Nat.not_lt_zero _))) (leF_upd rfl ⟨rfl, fun i hi => fits_w0 hx hi⟩ leF_emp id) id))
  intro k hk
  have hml := mvL_len gs k hk
  have hil := fun h => lets_inL gs k h
  have hil := Hold.mk hil
  repeat' (first | refine awp_seqK fun K hK => ?_ | (refine awp_regionK 36894020311550327751 rfl ?_; simp only [List.map_cons, List.map_nil]; simp (maxSteps := 1000000) (dsimp := false) (implicitDefEqProofs := false) (disch := omega) only [wrap64, go_sem, scF_wV]) | (refine awp_regionQK 36894020311550327751 (by kernel_rfl) (by kernel_rfl) (by kernel_rfl) ?_; simp only [List.map_cons, List.map_nil]; simp (maxSteps := 1000000) (dsimp := false) (implicitDefEqProofs := false) (disch := omega) only [wrap64, go_sem, scF_wV]) | refine awp_block ?_ | (refine awp_skip ?_; simp only [go_sem, scF_wV]) | (refine awp_exit ?_; simp only [go_sem, scF_wV]) | (refine awp_ret ?_; try simp only [go_sem, scF_wV]) | (refine awp_condP rfl ?_; try simp only [go_sem, scF_wV]) | (refine BrP.mk (fun h => ?_) (fun h => ?_) <;> try simp (dsimp := false) (disch := omega) only [wrap64]) | (refine Br.mk (fun h => ?_) (fun h => ?_) <;> try simp (dsimp := false) (disch := omega) only [wrap64]) | refine Ob.mk (by first | omega | (intro _ _; rfl) | trivial | (intros; trivial) | assumption | (intro i hi; have h0 : i = 0 := (by omega); subst h0; first | rfl | trivial) | (intro i hi; have h0 : i = 0 ∨ i = 1 := (by omega); rcases h0 with rfl | rfl <;> rfl) | (intro i hi; have h0 : i = 0 ∨ i = 1 ∨ i = 2 := (by omega); rcases h0 with rfl | rfl | rfl <;> rfl)) ?_ | ((first | ((first | refine atF (f := 173) ?_ | refine atQ (f := 173) ?_); (first | (refine cR (hac := implLetterOf_ok n gs _ hg.h (hil.h (by omega))) (hK := ?_)) | (refine cQR (hac := implLetterOf_ok n gs _ hg.h (hil.h (by omega))) (hK := ?_))))); simp (maxSteps := 1000000) (dsimp := false) (implicitDefEqProofs := false) (disch := omega) only [wrap64, go_sem, scF_wV]) | apply_assumption -exfalso -symm)
  all_goals (first | (show endQ _ _ _ _ _ _ _; (repeat (rename (∀ (A : Fr) (H : Hp), AWP _ _ _ _ A H → _) => hK; clear hK)); (repeat (rename (Fr → Hp → Prop) => K; clear K))) | (show Exists _; (repeat (rename (∀ (A : Fr) (H : Hp), AWP _ _ _ _ A H → _) => hK; clear hK)); (repeat (rename (Fr → Hp → Prop) => K; clear K))) | skip)
  · refine ⟨k + 1, by omega, by omega, ?_⟩
    refine Sub.toFF (fun _ => False) (Fr.fit_cons rfl (.refl _) (Fr.fit_cons rfl (.refl _) (Fr.fit_cons rfl (.refl _) (Fr.fit_cons rfl (.refl _) (Fr.fit_cons rfl (.refl _) (Fr.fit_cons rfl (.refl _) (Fr.fit_cons rfl (.refl _) (Fr.fit_cons rfl (.refl _) (Fr.fit_nil _))))))))) (leF_upd rfl (bfE rfl (fun i hi => ?_)) (leF_upd rfl (bfE rfl (fun i hi => rfl)) leF_emp id) id)
    rw [mvL_succ gs k (by omega)]
    have := ap_ints (mvL gs k) (letP gs ((lets gs.length).getD k 0)) i (by omega)
    rw [hml] at this
    exact this
  have ek : k = (lets gs.length).length := by omega
  subst ek
  refine awp_loop (ι := List (Option (List Int)) × List Int × List Int) (fun z => [(12, .own 39 z.2.1.length 1 z.2.2.length), (9, .list false 1 (mvL gs (lets gs.length).length).length (cM ints [] (mvL gs (lets gs.length).length))), (8, .list false 1 (lets gs.length).length (cM iv 0 (lets gs.length))), (7, .own 17 0 1 n)]) (fun z => (Hp.emp.upd 17 (.cells n (cM wV none z.1))).upd 39 (.cells (z.2.1.length + z.2.2.length) (cM iv 0 (z.2.1 ++ z.2.2)))) (fun z => Hold (WQ n gs x z.1 z.2.2)) (fun z => 2 * nnW z.1 + z.2.2.length) ((List.replicate n none).set x (some []), [], [(x : Int)]) ⟨WQ.start hx⟩ ?_ ?_
  · exact Sub.toFF (fun h => h = 30) (Fr.fit_cons rfl (.refl _) (Fr.fit_cons rfl (fits_II rfl rfl rfl (mvL_len gs _ (Nat.le_refl _)).symm) (Fr.fit_cons rfl (.refl _) (Fr.fit_cons rfl (.refl _) (Fr.fit_nil _))))) (leF_upd rfl (bfE rfl (fun i hi => rfl)) (leF_upd rfl (bfE rfl (fun i hi => rfl)) leF_emp (by decide)) (by decide))
  rintro ⟨ws, pre, q⟩ hv
  dsimp only at hv ⊢
  repeat' (first | refine awp_seqK fun K hK => ?_ | (refine awp_regionK 36894020311550327751 rfl ?_; simp only [List.map_cons, List.map_nil]; simp (maxSteps := 1000000) (dsimp := false) (implicitDefEqProofs := false) (disch := omega) only [wrap64, go_sem, scF_wV]) | (refine awp_regionQK 36894020311550327751 (by kernel_rfl) (by kernel_rfl) (by kernel_rfl) ?_; simp only [List.map_cons, List.map_nil]; simp (maxSteps := 1000000) (dsimp := false) (implicitDefEqProofs := false) (disch := omega) only [wrap64, go_sem, scF_wV]) | refine awp_block ?_ | (refine awp_skip ?_; simp only [go_sem, scF_wV]) | (refine awp_exit ?_; simp only [go_sem, scF_wV]) | (refine awp_ret ?_; try simp only [go_sem, scF_wV]) | (refine awp_condP rfl ?_; try simp only [go_sem, scF_wV]) | (refine BrP.mk (fun h => ?_) (fun h => ?_) <;> try simp (dsimp := false) (disch := omega) only [wrap64]) | (refine Br.mk (fun h => ?_) (fun h => ?_) <;> try simp (dsimp := false) (disch := omega) only [wrap64]) | refine Ob.mk (by first | omega | (intro _ _; rfl) | trivial | (intros; trivial) | assumption | (intro i hi; have h0 : i = 0 := (by omega); subst h0; first | rfl | trivial) | (intro i hi; have h0 : i = 0 ∨ i = 1 := (by omega); rcases h0 with rfl | rfl <;> rfl) | (intro i hi; have h0 : i = 0 ∨ i = 1 ∨ i = 2 := (by omega); rcases h0 with rfl | rfl | rfl <;> rfl)) ?_ | apply_assumption -exfalso -symm)
  all_goals (first | (show endQ _ _ _ _ _ _ _; (repeat (rename (∀ (A : Fr) (H : Hp), AWP _ _ _ _ A H → _) => hK; clear hK)); (repeat (rename (Fr → Hp → Prop) => K; clear K))) | (show Exists _; (repeat (rename (∀ (A : Fr) (H : Hp), AWP _ _ _ _ A H → _) => hK; clear hK)); (repeat (rename (Fr → Hp → Prop) => K; clear K))) | skip)
  · obtain ⟨v, r0, rfl⟩ : ∃ v r0, q = v :: r0 := by
      cases q with
      | nil => simp at *
      | cons v r0 => exact ⟨v, r0, rfl⟩
    obtain ⟨y, rfl, hy0⟩ := hv.h.qi v (by simp)
    obtain ⟨M0, hM0⟩ : ∃ M0, M0 = 2 * nnW ws + ((y : Int) :: r0).length := ⟨_, rfl⟩
    have hyn : y < n := by obtain ⟨w, e⟩ := hv.h.get hy0; exact (hv.h.wd y w e).1
    refine awp_loop (ι := Nat × List (Option (List Int)) × List Int × List Int) (fun z => [(47, .v (.int .i64 ((z.1 : Nat)))), (46, .v (.int .i64 ((lets gs.length).length))), (45, .list false 1 (lets gs.length).length (cM iv 0 (lets gs.length))), (12, .own 39 z.2.2.1.length 1 z.2.2.2.length), (9, .list false 1 (mvL gs (lets gs.length).length).length (cM ints [] (mvL gs (lets gs.length).length))), (8, .list false 1 (lets gs.length).length (cM iv 0 (lets gs.length))), (7, .own 17 0 1 n)]) (fun z => (Hp.emp.upd 17 (.cells n (cM wV none z.2.1))).upd 39 (.cells (z.2.2.1.length + z.2.2.2.length) (cM iv 0 (z.2.2.1 ++ z.2.2.2)))) (fun z => z.1 ≤ (lets gs.length).length ∧ Hold (WQ n gs x z.2.1 z.2.2.2 ∧ (∃ r, z.2.2.2 = (y : Int) :: r) ∧ (∀ i, i < z.1 → z.2.1.getD (img (letP gs ((lets gs.length).getD i 0)) y) none ≠ none) ∧ 2 * nnW z.2.1 + z.2.2.2.length ≤ M0)) (fun z => (lets gs.length).length - z.1) (0, ws, pre, (y : Int) :: r0) ⟨Nat.zero_le _, ⟨hv.h, ⟨r0, rfl⟩, fun i hi => absurd hi (Nat.not_lt_zero _), Nat.le_of_eq hM0.symm⟩⟩ (Sub.toL (by simp only [go_sem] <;> first | trivial | (simp only [Option.some.injEq, AV.v.injEq, AV.own.injEq, AV.list.injEq, Value.int.injEq, Value.bool.injEq, true_and, and_true]; first | omega | (simp; done)) | (simp; done) | (simp; omega)) (Hp.le_refl _)) ?_
    clear hv hy0
    rintro ⟨j, ws, pre, q⟩ ⟨hj, hV⟩
    dsimp only at hj hV ⊢
    obtain ⟨r, hqr⟩ := hV.h.2.1
    have hW := Hold.mk hV.h.1
    have hql : q.length = r.length + 1 := by rw [hqr]; rfl
    have hq0 : (pre ++ q).getD pre.length 0 = (y : Int) := by rw [hqr]; simp [List.getD_eq_getElem?_getD]
    have hil := Hold.mk (fun h => lets_inL gs j h)
    have hpm := Hold.mk (fun h => letP_pm hg.h (hil.h h))
    have hlen : j < (lets gs.length).length → (letP gs ((lets gs.length).getD j 0)).length = n := fun h => (hpm.h h).1
    have hTT : j < (lets gs.length).length → (letP gs ((lets gs.length).getD j 0)).getD y 0 = ((img (letP gs ((lets gs.length).getD j 0)) y : Nat) : Int) := fun h => (hpm.h h).get_eq hyn
    have hTn : j < (lets gs.length).length → img (letP gs ((lets gs.length).getD j 0)) y < n := fun h => (hpm.h h).img_lt hyn
    have hmg : j < (lets gs.length).length → (mvL gs (lets gs.length).length).getD j [] = letP gs ((lets gs.length).getD j 0) := fun h => mvL_get gs j h
    have hmll := mvL_len gs _ (Nat.le_refl (lets gs.length).length)
    have hyy : ws.getD y none ≠ none := by
      obtain ⟨z, e, hz⟩ := hW.h.qi (y : Int) (by rw [hqr]; simp)
      have : z = y := by omega
      rw [← this]; exact hz
    obtain ⟨wy, ewy⟩ := hW.h.get hyy
    clear hyy
    have hwl := (hW.h.wd y wy ewy).2.2.2.2
    have hqn := hW.h.ql
    have hM := hV.h.2.2.2
    have hcy : cM wV none ws y = .list true 1 wy.length (cM iv 0 wy) := by show wV (ws.getD y none) = _; rw [ewy]; rfl
    obtain ⟨T, eT⟩ : ∃ T, T = img (letP gs ((lets gs.length).getD j 0)) y := ⟨_, rfl⟩
    rw [← eT] at hTT hTn
    cases hT : ws.getD T none with
    | none =>
      have hcT : cM wV none ws T = .v (.slice none 0 0) := by show wV (ws.getD T none) = _; rw [hT]; rfl
      repeat' (first | (show False; omega) | refine awp_seqK fun K hK => ?_ | (refine awp_regionK 36894020311550327751 rfl ?_; simp only [List.map_cons, List.map_nil]; simp (maxSteps := 1000000) (dsimp := false) (implicitDefEqProofs := false) (disch := omega) only [wrap64, go_sem, scF_wV, tn0, tn1, Nat.add_zero, hq0, hlen, hTT, hmg, hmll, hcy, hcT]) | (refine awp_regionQK 36894020311550327751 (by kernel_rfl) (by kernel_rfl) (by kernel_rfl) ?_; simp only [List.map_cons, List.map_nil]; simp (maxSteps := 1000000) (dsimp := false) (implicitDefEqProofs := false) (disch := omega) only [wrap64, go_sem, scF_wV, tn0, tn1, Nat.add_zero, hq0, hlen, hTT, hmg, hmll, hcy, hcT]) | refine awp_block ?_ | (refine awp_skip ?_; simp only [go_sem, scF_wV, tn0, tn1, Nat.add_zero, hq0, hlen, hTT, hmg, hmll, hcy, hcT]) | (refine awp_exit ?_; simp only [go_sem, scF_wV, tn0, tn1, Nat.add_zero, hq0, hlen, hTT, hmg, hmll, hcy, hcT]) | (refine awp_ret ?_; try simp only [go_sem, scF_wV, tn0, tn1, Nat.add_zero, hq0, hlen, hTT, hmg, hmll, hcy, hcT]) | (refine awp_condP rfl ?_; try simp only [go_sem, scF_wV, tn0, tn1, Nat.add_zero, hq0, hlen, hTT, hmg, hmll, hcy, hcT]) | (refine BrP.mk (fun h => ?_) (fun h => ?_) <;> try simp (dsimp := false) (disch := omega) only [wrap64]) | (refine Br.mk (fun h => ?_) (fun h => ?_) <;> try simp (dsimp := false) (disch := omega) only [wrap64]) | refine Ob.mk (by first | omega | (intro _ _; rfl) | trivial | (intros; trivial) | assumption | (intro i hi; have h0 : i = 0 := (by omega); subst h0; first | rfl | trivial) | (intro i hi; have h0 : i = 0 ∨ i = 1 := (by omega); rcases h0 with rfl | rfl <;> rfl) | (intro i hi; have h0 : i = 0 ∨ i = 1 ∨ i = 2 := (by omega); rcases h0 with rfl | rfl | rfl <;> rfl)) ?_ | ((first | ((first | refine atF (f := 191) ?_ | refine atQ (f := 191) ?_); (first | (refine cI (hac := cloneT_ok wy (by omega) 74) (hK := ?_)) | (refine cQI (hac := cloneT_ok wy (by omega) 74) (hK := ?_))))); simp (maxSteps := 1000000) (dsimp := false) (implicitDefEqProofs := false) (disch := omega) only [wrap64, go_sem, scF_wV, tn0, tn1, Nat.add_zero, hq0, hlen, hTT, hmg, hmll, hcy, hcT]) | apply_assumption -exfalso -symm)
      all_goals (first | (show endQ _ _ _ _ _ _ _; (repeat (rename (∀ (A : Fr) (H : Hp), AWP _ _ _ _ A H → _) => hK; clear hK)); (repeat (rename (Fr → Hp → Prop) => K; clear K))) | (show Exists _; (repeat (rename (∀ (A : Fr) (H : Hp), AWP _ _ _ _ A H → _) => hK; clear hK)); (repeat (rename (Fr → Hp → Prop) => K; clear K))) | skip)
      · have hTl : T < ws.length := by rw [hW.h.len]; exact hTn (by omega)
        have hst := hW.h.step hg.h hx ewy (hil.h (by omega)) (by rw [← eT]; exact hT)
        rw [← eT] at hst
        have hnn := nnW_set (w := wy ++ [(lets gs.length).getD j 0]) hTl hT
        refine ⟨(j + 1, ws.set T (some (wy ++ [(lets gs.length).getD j 0])), [], q ++ [(T : Int)]), ⟨by dsimp only; omega, ⟨hst, ⟨r ++ [(T : Int)], by dsimp only; rw [hqr]; rfl⟩, fun i hi => ?_, by dsimp only; rw [List.length_append, List.length_singleton]; omega⟩⟩, by dsimp only; omega, ?_⟩
        · dsimp only at hi ⊢
          rw [getD_set hTl]
          split
          · simp
          · rename_i hne
            by_cases hij : i = j
            · subst hij; exact absurd eT.symm hne
            · exact hV.h.2.2.1 i (by show i < j; omega)
        · have l1 : (q ++ [(T : Int)]).length = q.length + 1 := by rw [List.length_append, List.length_singleton]
          dsimp only
          rw [l1, List.length_nil, Nat.zero_add, List.nil_append]
          refine Sub.toFF (fun h => h = 74) (Fr.fit_cons rfl (.refl _) (Fr.fit_cons rfl (.refl _) (Fr.fit_cons rfl (.refl _) (Fr.fit_cons rfl (.refl _) (Fr.fit_cons rfl (.refl _) (Fr.fit_cons rfl (.refl _) (Fr.fit_cons rfl (.refl _) (Fr.fit_nil _)))))))) (leF_upd rfl (bfE rfl (fun i hi => ?_)) (leF_upd rfl ⟨rfl, fun i hi => ?_⟩ leF_emp (by decide)) (by decide))
          · rw [List.drop_left]; exact congrFun (apF_cM iv 0 q [(T : Int)]) i
          · by_cases e : i = T
            · subst e
              have e1 : setF (cM wV none ws) i (.own 74 0 1 (wy.length + 1)) i = .own 74 0 1 (wy.length + 1) := if_pos rfl
              have e2 : cM wV none (ws.set i (some (wy ++ [(lets gs.length).getD j 0]))) i = .list true 1 (wy ++ [(lets gs.length).getD j 0]).length (cM iv 0 (wy ++ [(lets gs.length).getD j 0])) := by
                unfold cM; rw [getD_set hTl, if_pos rfl]; rfl
              rw [e1, e2]
              exact .nonnil (by rw [List.length_append, List.length_singleton]; omega) (fits_I rfl rfl rfl (by rw [List.length_append, List.length_singleton]))
            · have e1 : setF (cM wV none ws) T (.own 74 0 1 (wy.length + 1)) i = cM wV none ws i := if_neg e
              have e2 : cM wV none (ws.set T (some (wy ++ [(lets gs.length).getD j 0]))) i = cM wV none ws i := by
                unfold cM; rw [getD_set hTl, if_neg e]
              rw [e1, e2]
              exact .refl _
      · have ej : j = (lets gs.length).length := by omega
        refine ⟨(ws, pre ++ [(y : Int)], r), ⟨hW.h.pop hqr fun i hi => hV.h.2.2.1 i (by omega)⟩, by rw [List.length_cons] at hM0; dsimp only; omega, ?_⟩
        have e1 : (pre ++ [(y : Int)]).length = pre.length + 1 := by rw [List.length_append, List.length_singleton]
        have e2 : pre ++ [(y : Int)] ++ r = pre ++ q := by rw [List.append_assoc, hqr]; rfl
        have e3 : (pre ++ [(y : Int)]).length + r.length = pre.length + q.length := by omega
        have e4 : r.length = q.length - 1 := by omega
        dsimp only
        rw [e3, e2, e1, e4]
        exact Sub.toL (by simp only [go_sem] <;> first | trivial | (simp only [Option.some.injEq, AV.v.injEq, AV.own.injEq, AV.list.injEq, Value.int.injEq, Value.bool.injEq, true_and, and_true]; first | omega | (simp; done)) | (simp; done) | (simp; omega)) (Hp.le_refl _)
    | some wT =>
      have hcT : cM wV none ws T = .list true 1 wT.length (cM iv 0 wT) := by show wV (ws.getD T none) = _; rw [hT]; rfl
      repeat' (first | (show False; omega) | refine awp_seqK fun K hK => ?_ | (refine awp_regionK 36894020311550327751 rfl ?_; simp only [List.map_cons, List.map_nil]; simp (maxSteps := 1000000) (dsimp := false) (implicitDefEqProofs := false) (disch := omega) only [wrap64, go_sem, scF_wV, tn0, tn1, Nat.add_zero, hq0, hlen, hTT, hmg, hmll, hcy, hcT]) | (refine awp_regionQK 36894020311550327751 (by kernel_rfl) (by kernel_rfl) (by kernel_rfl) ?_; simp only [List.map_cons, List.map_nil]; simp (maxSteps := 1000000) (dsimp := false) (implicitDefEqProofs := false) (disch := omega) only [wrap64, go_sem, scF_wV, tn0, tn1, Nat.add_zero, hq0, hlen, hTT, hmg, hmll, hcy, hcT]) | refine awp_block ?_ | (refine awp_skip ?_; simp only [go_sem, scF_wV, tn0, tn1, Nat.add_zero, hq0, hlen, hTT, hmg, hmll, hcy, hcT]) | (refine awp_exit ?_; simp only [go_sem, scF_wV, tn0, tn1, Nat.add_zero, hq0, hlen, hTT, hmg, hmll, hcy, hcT]) | (refine awp_ret ?_; try simp only [go_sem, scF_wV, tn0, tn1, Nat.add_zero, hq0, hlen, hTT, hmg, hmll, hcy, hcT]) | (refine awp_condP rfl ?_; try simp only [go_sem, scF_wV, tn0, tn1, Nat.add_zero, hq0, hlen, hTT, hmg, hmll, hcy, hcT]) | (refine BrP.mk (fun h => ?_) (fun h => ?_) <;> try simp (dsimp := false) (disch := omega) only [wrap64]) | (refine Br.mk (fun h => ?_) (fun h => ?_) <;> try simp (dsimp := false) (disch := omega) only [wrap64]) | refine Ob.mk (by first | omega | (intro _ _; rfl) | trivial | (intros; trivial) | assumption | (intro i hi; have h0 : i = 0 := (by omega); subst h0; first | rfl | trivial) | (intro i hi; have h0 : i = 0 ∨ i = 1 := (by omega); rcases h0 with rfl | rfl <;> rfl) | (intro i hi; have h0 : i = 0 ∨ i = 1 ∨ i = 2 := (by omega); rcases h0 with rfl | rfl | rfl <;> rfl)) ?_ | ((first | ((first | refine atF (f := 191) ?_ | refine atQ (f := 191) ?_); (first | (refine cI (hac := cloneT_ok wy (by omega) 74) (hK := ?_)) | (refine cQI (hac := cloneT_ok wy (by omega) 74) (hK := ?_))))); simp (maxSteps := 1000000) (dsimp := false) (implicitDefEqProofs := false) (disch := omega) only [wrap64, go_sem, scF_wV, tn0, tn1, Nat.add_zero, hq0, hlen, hTT, hmg, hmll, hcy, hcT]) | apply_assumption -exfalso -symm)
      all_goals (first | (show endQ _ _ _ _ _ _ _; (repeat (rename (∀ (A : Fr) (H : Hp), AWP _ _ _ _ A H → _) => hK; clear hK)); (repeat (rename (Fr → Hp → Prop) => K; clear K))) | (show Exists _; (repeat (rename (∀ (A : Fr) (H : Hp), AWP _ _ _ _ A H → _) => hK; clear hK)); (repeat (rename (Fr → Hp → Prop) => K; clear K))) | skip)
      · refine ⟨(j + 1, ws, pre, q), ⟨by dsimp only; omega, ⟨hW.h, ⟨r, hqr⟩, fun i hi => ?_, hM⟩⟩, by dsimp only; omega, Sub.toL (by simp only [go_sem] <;> first | trivial | (simp only [Option.some.injEq, AV.v.injEq, AV.own.injEq, AV.list.injEq, Value.int.injEq, Value.bool.injEq, true_and, and_true]; first | omega | (simp; done)) | (simp; done) | (simp; omega)) (Hp.le_refl _)⟩
        dsimp only at hi ⊢
        by_cases e : i = j
        · subst e; rw [← eT, hT]; simp
        · exact hV.h.2.2.1 i (by show i < j; omega)
      · have ej : j = (lets gs.length).length := by omega
        refine ⟨(ws, pre ++ [(y : Int)], r), ⟨hW.h.pop hqr fun i hi => hV.h.2.2.1 i (by omega)⟩, by rw [List.length_cons] at hM0; dsimp only; omega, ?_⟩
        have e1 : (pre ++ [(y : Int)]).length = pre.length + 1 := by rw [List.length_append, List.length_singleton]
        have e2 : pre ++ [(y : Int)] ++ r = pre ++ q := by rw [List.append_assoc, hqr]; rfl
        have e3 : (pre ++ [(y : Int)]).length + r.length = pre.length + q.length := by omega
        have e4 : r.length = q.length - 1 := by omega
        dsimp only
        rw [e3, e2, e1, e4]
        exact Sub.toL (by simp only [go_sem] <;> first | trivial | (simp only [Option.some.injEq, AV.v.injEq, AV.own.injEq, AV.list.injEq, Value.int.injEq, Value.bool.injEq, true_and, and_true]; first | omega | (simp; done)) | (simp; done) | (simp; omega)) (Hp.le_refl _)
  · have e : q = [] := by
      cases q with
      | nil => rfl
      | cons v r0 => simp at *
    subst e
    exact end_frz rfl rfl (fits_wV rfl) ⟨ws, hv.h.last, rfl, rfl⟩
end Go.Proofs.Ytngpacdhpblpbaa
end
/- An orbit, all orbits: the program. -/
section
namespace Go.Proofs.Ytngpacdhpblpbaa
open Go.Av
set_option linter.unusedSimpArgs false
set_option linter.unusedVariables false
attribute [local irreducible] AWP CallG Ob Br BrP Go.Av.Sub endQ AOps OpV AC thenA blkA opsVC opVC withA withArgs opsQ opQ CallQ withA2 withArgs2
open Go.Pm (Pm Rch img comp invp orbF clsF clsN partK loR)
theorem callW {P : Program} {N : Cx} {A : Fr} {H : Hp} {f : FuncId} {args : List AV} {n x : Nat} {gs : List (List Int)} {K : AV → Fr → Hp → Prop} (hac : AC P f args Hp.emp (fun _ => false) (fun r H => ∃ ws, WP n gs x ws ∧ r = .list false 1 n (cM wV none ws) ∧ H = Hp.emp)) (hK : ∀ ws, WP n gs x ws → K (.list false 1 n (cM wV none ws)) A H) : CallG P N f args A H K := by
  refine callG_of hac (fun _ => false) false (by simp [Hp.emp]) (FitsL.refl _) (fun _ => rfl) (by simp [Hp.emp]) (by simp) ?_
  rintro r H' ⟨ws, hw, rfl, rfl⟩
  refine ⟨by simp [Hp.emp], by simp, ?_⟩
  have e1 : (fun h => !liveB Hp.emp h) = fun _ => true := by funext h; simp [liveB, Hp.emp]
  have e2 : Hp.over (Hp.emp.scrub fun h => !liveB Hp.emp h) (H.scrub fun _ => false) Hp.emp = H := by
    rw [Hp.scrub_none]
    funext h
    unfold Hp.over Hp.scrub Hp.emp
    simp
  rw [e2, Fr.scrub_none, scrub_list]
  exact hK ws hw
/-- The points with words, of the first k. -/
def rchL (ws : List (Option (List Int))) (k : Nat) : List Int := ((List.range k).filter fun y => (ws.getD y none).isSome).map fun y : Nat => (y : Int)
theorem rchL_succ (ws : List (Option (List Int))) (k : Nat) : rchL ws (k + 1) = if (ws.getD k none).isSome then rchL ws k ++ [(k : Int)] else rchL ws k := by
  unfold rchL
  rw [List.range_succ, List.filter_append, List.map_append]
  by_cases h : (ws.getD k none).isSome = true
  · rw [if_pos h]; simp only [List.filter_cons, h, if_true, List.filter_nil, List.map_cons, List.map_nil]
  · rw [if_neg h]; rw [Bool.not_eq_true] at h; simp only [List.filter_cons, h, Bool.false_eq_true, if_false, List.filter_nil, List.map_nil, List.append_nil]
theorem rchL_len (ws : List (Option (List Int))) (k : Nat) : (rchL ws k).length ≤ k := by
  unfold rchL
  rw [List.length_map]
  have := List.length_filter_le (fun y => (ws.getD y none).isSome) (List.range k)
  rwa [List.length_range] at this
theorem rchL_orb {n x : Nat} {gs : List (List Int)} {ws : List (Option (List Int))} (h : WP n gs x ws) : rchL ws n = orbF n gs x := by
  unfold rchL orbF clsF clsN
  congr 1
  refine List.filter_congr fun y hy => ?_
  have h1 := h.iff y (List.mem_range.1 hy)
  have h2 : ((ws.getD y none).isSome = true) ↔ ws.getD y none ≠ none := by cases ws.getD y none <;> simp
  exact Bool.eq_iff_iff.2 (h2.trans (h1.trans (@decide_eq_true_iff _ (Classical.propDecidable _)).symm))
theorem implOrbit_ok (n : Nat) (gs : List (List Int)) (x : Nat) (hg : gensP n gs) (hx : x < n) (hl : gs.length ≤ 1000) (d : Nat) : AC Try.prog 144 [.v (.int .i64 ((n : Nat))), intss gs, .v (.int .i64 ((x : Nat)))] Hp.emp (fun _ => false) (retI d (orbF n gs x)) := by
  have hn := hg.2.1
  have hw0 := wordsFrom_ok n gs x hg hx hl
  have hg := Hold.mk hg
  refine ac_of_awp (N := ⟨_, fun _ => false, fun _ _ => rfl⟩) Try.func144 rfl (by kernel_rfl) Try.ntmps144 (by simp) ?_
  simp only [argsFr, List.zipIdx_cons, List.zipIdx_nil, go_sem]
  repeat' (first | refine awp_seqK fun K hK => ?_ | (refine awp_regionK 2220999 rfl ?_; simp only [List.map_cons, List.map_nil]; simp (maxSteps := 1000000) (dsimp := false) (implicitDefEqProofs := false) (disch := omega) only [wrap64, go_sem]) | (refine awp_regionQK 2220999 (by kernel_rfl) (by kernel_rfl) (by kernel_rfl) ?_; simp only [List.map_cons, List.map_nil]; simp (maxSteps := 1000000) (dsimp := false) (implicitDefEqProofs := false) (disch := omega) only [wrap64, go_sem]) | refine awp_block ?_ | (refine awp_skip ?_; simp only [go_sem]) | (refine awp_exit ?_; simp only [go_sem]) | (refine awp_ret ?_; try simp only [go_sem]) | (refine awp_condP rfl ?_; try simp only [go_sem]) | (refine BrP.mk (fun h => ?_) (fun h => ?_) <;> try simp (dsimp := false) (disch := omega) only [wrap64]) | (refine Br.mk (fun h => ?_) (fun h => ?_) <;> try simp (dsimp := false) (disch := omega) only [wrap64]) | refine Ob.mk (by first | omega | (intro _ _; rfl) | trivial | (intros; trivial) | assumption | (intro i hi; have h0 : i = 0 := (by omega); subst h0; first | rfl | trivial) | (intro i hi; have h0 : i = 0 ∨ i = 1 := (by omega); rcases h0 with rfl | rfl <;> rfl) | (intro i hi; have h0 : i = 0 ∨ i = 1 ∨ i = 2 := (by omega); rcases h0 with rfl | rfl | rfl <;> rfl)) ?_ | ((first | ((first | refine atF (f := 177) ?_ | refine atQ (f := 177) ?_); refine callW hw0 (fun ws hws => ?_))); simp (maxSteps := 1000000) (dsimp := false) (implicitDefEqProofs := false) (disch := omega) only [wrap64, go_sem]) | apply_assumption -exfalso -symm)
  all_goals (first | (show endQ _ _ _ _ _ _ _; (repeat (rename (∀ (A : Fr) (H : Hp), AWP _ _ _ _ A H → _) => hK; clear hK)); (repeat (rename (Fr → Hp → Prop) => K; clear K))) | (show Exists _; (repeat (rename (∀ (A : Fr) (H : Hp), AWP _ _ _ _ A H → _) => hK; clear hK)); (repeat (rename (Fr → Hp → Prop) => K; clear K))) | skip)
  have hwl := hws.len
  refine awp_loop (ι := Nat) (fun k => [(15, .v (.int .i64 ((k : Nat)))), (14, .v (.int .i64 ((n : Nat)))), (13, .list false 1 n (cM wV none ws)), (7, .own 30 0 1 (rchL ws k).length)]) (fun k => Hp.emp.upd 30 (.cells (rchL ws k).length (cM iv 0 (rchL ws k)))) (fun k => k ≤ n) (fun k => n - k) 0 ?_ (Sub.trans (Sub.nil (i := 7) 30 1 (cM iv 0 []) rfl rfl) (Sub.toL (by simp only [go_sem] <;> first | trivial | (simp only [Option.some.injEq, AV.v.injEq, AV.own.injEq, AV.list.injEq, Value.int.injEq, Value.bool.injEq, true_and, and_true]; first | omega | (simp [rchL]; done)) | (simp [rchL]; done) | (simp [rchL]; omega)) (by (repeat' (first | exact Hp.le_emp _ | exact Hp.le_refl _ | refine Hp.le_upd ?_ ?_)); all_goals (first | rfl | (simp only [go_sem]; first | rfl | (refine cellsE ?_ ?_ <;> (simp [rchL])) | (simp [rchL])))))) ?_
  · exact Nat.zero_le _
  intro k hk
  have hrl := rchL_len ws k
  have hsc := rchL_succ ws k
  cases hT : ws.getD k none with
  | none =>
    have hcT : cM wV none ws k = .v (.slice none 0 0) := by show wV (ws.getD k none) = _; rw [hT]; rfl
    rw [hT] at hsc
    have hsc : rchL ws (k + 1) = rchL ws k := hsc
    repeat' (first | (show False; omega) | refine awp_seqK fun K hK => ?_ | (refine awp_regionK 2220999 rfl ?_; simp only [List.map_cons, List.map_nil]; simp (maxSteps := 1000000) (dsimp := false) (implicitDefEqProofs := false) (disch := omega) only [wrap64, go_sem, hcT]) | (refine awp_regionQK 2220999 (by kernel_rfl) (by kernel_rfl) (by kernel_rfl) ?_; simp only [List.map_cons, List.map_nil]; simp (maxSteps := 1000000) (dsimp := false) (implicitDefEqProofs := false) (disch := omega) only [wrap64, go_sem, hcT]) | refine awp_block ?_ | (refine awp_skip ?_; simp only [go_sem, hcT]) | (refine awp_exit ?_; simp only [go_sem, hcT]) | (refine awp_ret ?_; try simp only [go_sem, hcT]) | (refine awp_condP rfl ?_; try simp only [go_sem, hcT]) | (refine BrP.mk (fun h => ?_) (fun h => ?_) <;> try simp (dsimp := false) (disch := omega) only [wrap64]) | (refine Br.mk (fun h => ?_) (fun h => ?_) <;> try simp (dsimp := false) (disch := omega) only [wrap64]) | refine Ob.mk (by first | omega | (intro _ _; rfl) | trivial | (intros; trivial) | assumption | (intro i hi; have h0 : i = 0 := (by omega); subst h0; first | rfl | trivial) | (intro i hi; have h0 : i = 0 ∨ i = 1 := (by omega); rcases h0 with rfl | rfl <;> rfl) | (intro i hi; have h0 : i = 0 ∨ i = 1 ∨ i = 2 := (by omega); rcases h0 with rfl | rfl | rfl <;> rfl)) ?_ | apply_assumption -exfalso -symm)
    all_goals (first | (show endQ _ _ _ _ _ _ _; (repeat (rename (∀ (A : Fr) (H : Hp), AWP _ _ _ _ A H → _) => hK; clear hK)); (repeat (rename (Fr → Hp → Prop) => K; clear K))) | (show Exists _; (repeat (rename (∀ (A : Fr) (H : Hp), AWP _ _ _ _ A H → _) => hK; clear hK)); (repeat (rename (Fr → Hp → Prop) => K; clear K))) | skip)
    · refine ⟨k + 1, by omega, by omega, ?_⟩
      rw [hsc]
      exact Sub.toL (by simp only [go_sem] <;> first | trivial | (simp only [Option.some.injEq, AV.v.injEq, AV.own.injEq, AV.list.injEq, Value.int.injEq, Value.bool.injEq, true_and, and_true]; first | omega | (simp; done)) | (simp; done) | (simp; omega)) (Hp.le_refl _)
    · have e : k = n := by omega
      subst e
      rw [← rchL_orb hws]
      (first | refine end_retI' rfl rfl rfl ?_ rfl rfl | refine end_retI_nil' rfl rfl ?_ rfl)
      rfl
  | some w =>
    have hcT : cM wV none ws k = .list true 1 w.length (cM iv 0 w) := by show wV (ws.getD k none) = _; rw [hT]; rfl
    rw [hT] at hsc
    have hsc : rchL ws (k + 1) = rchL ws k ++ [(k : Int)] := hsc
    repeat' (first | (show False; omega) | refine awp_seqK fun K hK => ?_ | (refine awp_regionK 2220999 rfl ?_; simp only [List.map_cons, List.map_nil]; simp (maxSteps := 1000000) (dsimp := false) (implicitDefEqProofs := false) (disch := omega) only [wrap64, go_sem, hcT]) | (refine awp_regionQK 2220999 (by kernel_rfl) (by kernel_rfl) (by kernel_rfl) ?_; simp only [List.map_cons, List.map_nil]; simp (maxSteps := 1000000) (dsimp := false) (implicitDefEqProofs := false) (disch := omega) only [wrap64, go_sem, hcT]) | refine awp_block ?_ | (refine awp_skip ?_; simp only [go_sem, hcT]) | (refine awp_exit ?_; simp only [go_sem, hcT]) | (refine awp_ret ?_; try simp only [go_sem, hcT]) | (refine awp_condP rfl ?_; try simp only [go_sem, hcT]) | (refine BrP.mk (fun h => ?_) (fun h => ?_) <;> try simp (dsimp := false) (disch := omega) only [wrap64]) | (refine Br.mk (fun h => ?_) (fun h => ?_) <;> try simp (dsimp := false) (disch := omega) only [wrap64]) | refine Ob.mk (by first | omega | (intro _ _; rfl) | trivial | (intros; trivial) | assumption | (intro i hi; have h0 : i = 0 := (by omega); subst h0; first | rfl | trivial) | (intro i hi; have h0 : i = 0 ∨ i = 1 := (by omega); rcases h0 with rfl | rfl <;> rfl) | (intro i hi; have h0 : i = 0 ∨ i = 1 ∨ i = 2 := (by omega); rcases h0 with rfl | rfl | rfl <;> rfl)) ?_ | apply_assumption -exfalso -symm)
    all_goals (first | (show endQ _ _ _ _ _ _ _; (repeat (rename (∀ (A : Fr) (H : Hp), AWP _ _ _ _ A H → _) => hK; clear hK)); (repeat (rename (Fr → Hp → Prop) => K; clear K))) | (show Exists _; (repeat (rename (∀ (A : Fr) (H : Hp), AWP _ _ _ _ A H → _) => hK; clear hK)); (repeat (rename (Fr → Hp → Prop) => K; clear K))) | skip)
    · have l1 : (rchL ws (k + 1)).length = (rchL ws k).length + 1 := by rw [hsc, List.length_append, List.length_singleton]
      refine ⟨k + 1, by omega, by omega, ?_⟩
      rw [l1, hsc]
      exact Sub.toL (by simp only [go_sem] <;> first | trivial | (simp only [Option.some.injEq, AV.v.injEq, AV.own.injEq, AV.list.injEq, Value.int.injEq, Value.bool.injEq, true_and, and_true]; first | omega | (simp; done)) | (simp; done) | (simp; omega)) (by (repeat' (first | exact Hp.le_emp _ | exact Hp.le_refl _ | refine Hp.le_upd ?_ ?_)); all_goals (first | rfl | (simp only [go_sem]; first | rfl | (refine cellsE ?_ ?_ <;> (simp)) | (simp))))
    · have e : k = n := by omega
      subst e
      rw [← rchL_orb hws]
      (first | refine end_retI' rfl rfl rfl ?_ rfl rfl | refine end_retI_nil' rfl rfl ?_ rfl)
      rfl
end Go.Proofs.Ytngpacdhpblpbaa
end
/- All orbits: the program. -/
section
namespace Go.Proofs.Ytngpacdhpblpbaa
open Go.Av
set_option linter.unusedSimpArgs false
set_option linter.unusedVariables false
attribute [local irreducible] AWP CallG Ob Br BrP Go.Av.Sub endQ AOps OpV AC thenA blkA opsVC opVC withA withArgs opsQ opQ CallQ withA2 withArgs2
open Go.Pm (Pm Rch img comp invp orbF clsF clsN partK loR)
def Sn (n : Nat) (sn : List Bool) (p : Nat → Prop) : Prop := sn.length = n ∧ ∀ y, y < n → (sn.getD y false = true ↔ p y)
theorem Sn.set {n w : Nat} {sn : List Bool} {p : Nat → Prop} (h : Sn n sn p) (hw : w < n) : Sn n (sn.set w true) (fun y => p y ∨ y = w) := by
  have hl : w < sn.length := by rw [h.1]; exact hw
  refine ⟨by rw [List.length_set]; exact h.1, fun y hy => ?_⟩
  rw [getD_set hl]
  split
  · rename_i e; simp [e]
  · rename_i e
    rw [h.2 y hy]
    exact ⟨.inl, fun k => k.elim id fun k => absurd k e⟩
theorem Sn.imp {n : Nat} {sn : List Bool} {p q : Nat → Prop} (h : Sn n sn p) (k : ∀ y, y < n → (p y ↔ q y)) : Sn n sn q := ⟨h.1, fun y hy => (h.2 y hy).trans (k y hy)⟩
theorem implOrbitsI_ok (n : Nat) (gs : List (List Int)) (hg : gensP n gs) (hl : gs.length ≤ 1000) : AC Try.prog 85 [.v (.int .i64 ((n : Nat))), intss gs] Hp.emp (fun _ => false) (retV (intss (partK n (Rch gs) n))) := by
  have hn := hg.2.1
  have hg := Hold.mk hg
  refine ac_of_awp (N := ⟨_, fun _ => false, fun _ _ => rfl⟩) Try.func85 rfl (by kernel_rfl) Try.ntmps85 (by simp) ?_
  simp only [argsFr, List.zipIdx_cons, List.zipIdx_nil, go_sem]
  repeat' (first | refine awp_seqK fun K hK => ?_ | (refine awp_regionK 504423923 rfl ?_; simp only [List.map_cons, List.map_nil]; simp (maxSteps := 1000000) (dsimp := false) (implicitDefEqProofs := false) (disch := omega) only [wrap64, go_sem]) | (refine awp_regionQK 504423923 (by kernel_rfl) (by kernel_rfl) (by kernel_rfl) ?_; simp only [List.map_cons, List.map_nil]; simp (maxSteps := 1000000) (dsimp := false) (implicitDefEqProofs := false) (disch := omega) only [wrap64, go_sem]) | refine awp_block ?_ | (refine awp_skip ?_; simp only [go_sem]) | (refine awp_exit ?_; simp only [go_sem]) | (refine awp_ret ?_; try simp only [go_sem]) | (refine awp_condP rfl ?_; try simp only [go_sem]) | (refine BrP.mk (fun h => ?_) (fun h => ?_) <;> try simp (dsimp := false) (disch := omega) only [wrap64]) | (refine Br.mk (fun h => ?_) (fun h => ?_) <;> try simp (dsimp := false) (disch := omega) only [wrap64]) | refine Ob.mk (by first | omega | (intro _ _; rfl) | trivial | (intros; trivial) | assumption | (intro i hi; have h0 : i = 0 := (by omega); subst h0; first | rfl | trivial) | (intro i hi; have h0 : i = 0 ∨ i = 1 := (by omega); rcases h0 with rfl | rfl <;> rfl) | (intro i hi; have h0 : i = 0 ∨ i = 1 ∨ i = 2 := (by omega); rcases h0 with rfl | rfl | rfl <;> rfl)) ?_ | apply_assumption -exfalso -symm)
  all_goals (first | (show endQ _ _ _ _ _ _ _; (repeat (rename (∀ (A : Fr) (H : Hp), AWP _ _ _ _ A H → _) => hK; clear hK)); (repeat (rename (Fr → Hp → Prop) => K; clear K))) | (show Exists _; (repeat (rename (∀ (A : Fr) (H : Hp), AWP _ _ _ _ A H → _) => hK; clear hK)); (repeat (rename (Fr → Hp → Prop) => K; clear K))) | skip)
  refine awp_loop (ι := Nat × List Bool) (fun z => [(14, .v (.int .i64 ((z.1 : Nat)))), (13, .v (.int .i64 ((n : Nat)))), (6, .own 12 0 1 n), (5, .own 30 0 1 (partK n (Rch gs) z.1).length), (0, .v (.int .i64 ((n : Nat)))), (1, .list false 1 (gs).length (cM ints [] (gs)))]) (fun z => (Hp.emp.upd 12 (.cells n (cM bv false z.2))).upd 30 (.cells (partK n (Rch gs) z.1).length (cM ints [] (partK n (Rch gs) z.1)))) (fun z => z.1 ≤ n ∧ Hold (Sn n z.2 fun y => ∃ u, u < z.1 ∧ Rch gs u y)) (fun z => n - z.1) (0, List.replicate n false) ?_ ?_ ?_
  · refine ⟨Nat.zero_le _, ⟨⟨by rw [List.length_replicate], fun y hy => ?_⟩⟩⟩
    have : (List.replicate n false).getD y false = false := by rw [List.getD_eq_getElem?_getD, List.getElem?_replicate]; split <;> rfl
    rw [this]
    exact ⟨(fun h => by cases h), fun ⟨u, hu, _⟩ => absurd hu (Nat.not_lt_zero _)⟩
  · exact Sub.trans (Sub.nil (i := 5) 30 1 (cM ints [] []) rfl rfl) (Sub.toFF (fun _ => False) (Fr.fit_cons rfl (.refl _) (Fr.fit_cons rfl (.refl _) (Fr.fit_cons rfl (.refl _) (Fr.fit_cons rfl (.refl _) (Fr.fit_cons rfl (.refl _) (Fr.fit_cons rfl (.refl _) (Fr.fit_nil _))))))) (leF_upd rfl (bfE rfl (fun i hi => absurd hi (Nat.not_lt_zero _))) (leF_upd rfl (bfE rfl (fun i hi => rfl)) leF_emp id) id))
  rintro ⟨x, sn⟩ ⟨hx, hs⟩
  dsimp only at hx hs ⊢
  have hsl := hs.h.1
  have hpl := Go.Pm.partK_len n (Rch gs) x
  have hcl : (orbF n gs x).length ≤ n := Go.Pm.clsF_len
  have hoo := Hold.mk (fun (h : x < n) => implOrbit_ok n gs x hg.h h hl 24)
  repeat' (first | (show False; omega) | refine awp_seqK fun K hK => ?_ | (refine awp_regionK 504423923 rfl ?_; simp only [List.map_cons, List.map_nil]; simp (maxSteps := 1000000) (dsimp := false) (implicitDefEqProofs := false) (disch := omega) only [wrap64, go_sem]) | (refine awp_regionQK 504423923 (by kernel_rfl) (by kernel_rfl) (by kernel_rfl) ?_; simp only [List.map_cons, List.map_nil]; simp (maxSteps := 1000000) (dsimp := false) (implicitDefEqProofs := false) (disch := omega) only [wrap64, go_sem]) | refine awp_block ?_ | (refine awp_skip ?_; simp only [go_sem]) | (refine awp_exit ?_; simp only [go_sem]) | (refine awp_ret ?_; try simp only [go_sem]) | (refine awp_condP rfl ?_; try simp only [go_sem]) | (refine BrP.mk (fun h => ?_) (fun h => ?_) <;> try simp (dsimp := false) (disch := omega) only [wrap64]) | (refine Br.mk (fun h => ?_) (fun h => ?_) <;> try simp (dsimp := false) (disch := omega) only [wrap64]) | refine Ob.mk (by first | omega | (intro _ _; rfl) | trivial | (intros; trivial) | assumption | (intro i hi; have h0 : i = 0 := (by omega); subst h0; first | rfl | trivial) | (intro i hi; have h0 : i = 0 ∨ i = 1 := (by omega); rcases h0 with rfl | rfl <;> rfl) | (intro i hi; have h0 : i = 0 ∨ i = 1 ∨ i = 2 := (by omega); rcases h0 with rfl | rfl | rfl <;> rfl)) ?_ | ((first | (refine cFI (hac := hoo.h (by omega)) (hK := ?_)) | (refine cQI (hac := hoo.h (by omega)) (hK := ?_))); simp (maxSteps := 1000000) (dsimp := false) (implicitDefEqProofs := false) (disch := omega) only [wrap64, go_sem]) | apply_assumption -exfalso -symm)
  all_goals (first | (show endQ _ _ _ _ _ _ _; (repeat (rename (∀ (A : Fr) (H : Hp), AWP _ _ _ _ A H → _) => hK; clear hK)); (repeat (rename (Fr → Hp → Prop) => K; clear K))) | (show Exists _; (repeat (rename (∀ (A : Fr) (H : Hp), AWP _ _ _ _ A H → _) => hK; clear hK)); (repeat (rename (Fr → Hp → Prop) => K; clear K))) | skip)
  · have hp := (hs.h.2 x (by omega)).1 (by assumption)
    obtain ⟨u0, hu0, hr0⟩ := hp
    have hlo : ¬ loR (Rch gs) x = true := fun h => (Go.Pm.loR_iff _ _).1 h u0 hu0 hr0
    have e1 : partK n (Rch gs) (x + 1) = partK n (Rch gs) x := by rw [Go.Pm.partK_succ, if_neg hlo]
    refine ⟨(x + 1, sn), ⟨by dsimp only; omega, ⟨hs.h.imp fun y hy => ⟨fun ⟨u, hu, hr⟩ => ⟨u, by omega, hr⟩, fun ⟨u, hu, hr⟩ => ?_⟩⟩⟩, by dsimp only; omega, ?_⟩
    · by_cases e : u = x
      · subst e; exact ⟨u0, hu0, hr0.trans hr⟩
      · exact ⟨u, by omega, hr⟩
    · dsimp only
      rw [e1]
      exact Sub.toL (by simp only [go_sem] <;> first | trivial | (simp only [Option.some.injEq, AV.v.injEq, AV.own.injEq, AV.list.injEq, Value.int.injEq, Value.bool.injEq, true_and, and_true]; first | omega | (simp; done)) | (simp; done) | (simp; omega)) (Hp.le_refl _)
  · have hxn : x < n := by omega
    have hns : ¬ ∃ u, u < x ∧ Rch gs u x := fun h => absurd ((hs.h.2 x hxn).2 h) (by first | assumption | simp_all)
    have hlo : loR (Rch gs) x = true := (Go.Pm.loR_iff _ _).2 fun y hy hr => hns ⟨y, hy, hr⟩
    have e1 : partK n (Rch gs) (x + 1) = partK n (Rch gs) x ++ [orbF n gs x] := by rw [Go.Pm.partK_succ, if_pos hlo]
    have l1 : (partK n (Rch gs) (x + 1)).length = (partK n (Rch gs) x).length + 1 := by rw [e1, List.length_append, List.length_singleton]
    clear hns
    obtain ⟨o, eo⟩ : ∃ o, o = orbF n gs x := ⟨_, rfl⟩
    have hmem : ∀ y, y < n → ((y : Int) ∈ o ↔ Rch gs x y) := fun y hy => by
      rw [eo, Go.Pm.mem_clsF]
      exact ⟨fun ⟨z, e, _, hr⟩ => by have : z = y := by omega
                                     subst this; exact hr, fun hr => ⟨y, rfl, hy, hr⟩⟩
    have hpt : ∀ i, i < o.length → ∃ w : Nat, o.getD i 0 = (w : Int) ∧ w < n := fun i hi => by
      have : o.getD i 0 ∈ o := by rw [List.getD_eq_getElem?_getD, List.getElem?_eq_getElem hi]; exact List.getElem_mem hi
      rw [eo, Go.Pm.mem_clsF] at this
      obtain ⟨w, e, hw, _⟩ := this
      exact ⟨w, by rw [eo]; exact e, hw⟩
    have hmem := Hold.mk hmem
    have hpt := Hold.mk hpt
    rw [← eo] at hcl e1 ⊢
    refine awp_loop (ι := Nat × List Bool) (fun z => [(27, .v (.int .i64 ((z.1 : Nat)))), (26, .v (.int .i64 (o.length))), (25, .list false 1 (o).length (cM iv 0 (o))), (8, .list false 1 (o).length (cM iv 0 (o))), (14, .v (.int .i64 ((x : Nat)))), (13, .v (.int .i64 ((n : Nat)))), (6, .own 12 0 1 n), (5, .own 30 0 1 (partK n (Rch gs) x).length), (0, .v (.int .i64 ((n : Nat)))), (1, .list false 1 (gs).length (cM ints [] (gs)))]) (fun z => (Hp.emp.upd 12 (.cells n (cM bv false z.2))).upd 30 (.cells (partK n (Rch gs) x).length (cM ints [] (partK n (Rch gs) x)))) (fun z => z.1 ≤ o.length ∧ Hold (Sn n z.2 fun y => (∃ u, u < x ∧ Rch gs u y) ∨ (y : Int) ∈ o.take z.1)) (fun z => o.length - z.1) (0, sn) ⟨Nat.zero_le _, ⟨hs.h.imp fun y hy => ⟨.inl, fun h => h.elim id fun h => by simp at h⟩⟩⟩ (Sub.toL (by simp only [go_sem] <;> first | trivial | (simp only [Option.some.injEq, AV.v.injEq, AV.own.injEq, AV.list.injEq, Value.int.injEq, Value.bool.injEq, true_and, and_true]; first | omega | (simp; done)) | (simp; done) | (simp; omega)) (Hp.le_refl _)) ?_
    rintro ⟨i, sm⟩ ⟨hi, hm⟩
    dsimp only at hi hm ⊢
    have hml := hm.h.1
    have hb : ¬ i < o.length ∨ (0 ≤ o.getD i 0 ∧ o.getD i 0 < n) := by
      by_cases h : i < o.length
      · obtain ⟨w, e, hw⟩ := hpt.h i h
        exact .inr ⟨by omega, by omega⟩
      · exact .inl h
    repeat' (first | (show False; omega) | refine awp_seqK fun K hK => ?_ | (refine awp_regionK 504423923 rfl ?_; simp only [List.map_cons, List.map_nil]; simp (maxSteps := 1000000) (dsimp := false) (implicitDefEqProofs := false) (disch := omega) only [wrap64, go_sem]) | (refine awp_regionQK 504423923 (by kernel_rfl) (by kernel_rfl) (by kernel_rfl) ?_; simp only [List.map_cons, List.map_nil]; simp (maxSteps := 1000000) (dsimp := false) (implicitDefEqProofs := false) (disch := omega) only [wrap64, go_sem]) | refine awp_block ?_ | (refine awp_skip ?_; simp only [go_sem]) | (refine awp_exit ?_; simp only [go_sem]) | (refine awp_ret ?_; try simp only [go_sem]) | (refine awp_condP rfl ?_; try simp only [go_sem]) | (refine BrP.mk (fun h => ?_) (fun h => ?_) <;> try simp (dsimp := false) (disch := omega) only [wrap64]) | (refine Br.mk (fun h => ?_) (fun h => ?_) <;> try simp (dsimp := false) (disch := omega) only [wrap64]) | refine Ob.mk (by first | omega | (intro _ _; rfl) | trivial | (intros; trivial) | assumption | (intro i hi; have h0 : i = 0 := (by omega); subst h0; first | rfl | trivial) | (intro i hi; have h0 : i = 0 ∨ i = 1 := (by omega); rcases h0 with rfl | rfl <;> rfl) | (intro i hi; have h0 : i = 0 ∨ i = 1 ∨ i = 2 := (by omega); rcases h0 with rfl | rfl | rfl <;> rfl)) ?_ | apply_assumption -exfalso -symm)
    all_goals (first | (show endQ _ _ _ _ _ _ _; (repeat (rename (∀ (A : Fr) (H : Hp), AWP _ _ _ _ A H → _) => hK; clear hK)); (repeat (rename (Fr → Hp → Prop) => K; clear K))) | (show Exists _; (repeat (rename (∀ (A : Fr) (H : Hp), AWP _ _ _ _ A H → _) => hK; clear hK)); (repeat (rename (Fr → Hp → Prop) => K; clear K))) | skip)
    · obtain ⟨w, ew, hw⟩ := hpt.h i (by omega)
      have ewn : (o.getD i 0).toNat = w := by omega
      have e2 : o.take (i + 1) = o.take i ++ [(w : Int)] := by
        have hio : i < o.length := by omega
        rw [List.take_succ_eq_append_getElem hio, ← ew, List.getD_eq_getElem?_getD, List.getElem?_eq_getElem hio]; rfl
      refine ⟨(i + 1, sm.set w true), ⟨by dsimp only; omega, ⟨(hm.h.set hw).imp fun y hy => ?_⟩⟩, by dsimp only; omega, ?_⟩
      · rw [e2, List.mem_append, List.mem_singleton]
        exact ⟨fun h => h.elim (fun h => h.elim .inl fun h => .inr (.inl h)) fun h => .inr (.inr (by omega)), fun h => h.elim (fun h => .inl (.inl h)) fun h => h.elim (fun h => .inl (.inr h)) fun h => .inr (by omega)⟩
      · dsimp only
        rw [ewn]
        exact Sub.toL (by simp only [go_sem] <;> first | trivial | (simp only [Option.some.injEq, AV.v.injEq, AV.own.injEq, AV.list.injEq, Value.int.injEq, Value.bool.injEq, true_and, and_true]; first | omega | (simp; done)) | (simp; done) | (simp; omega)) (by (repeat' (first | exact Hp.le_emp _ | exact Hp.le_refl _ | refine Hp.le_upd ?_ ?_)); all_goals (first | rfl | (simp only [go_sem]; first | rfl | (refine cellsE ?_ ?_ <;> (simp)) | (simp))))
    · have ei : i = o.length := by omega
      subst ei
      refine ⟨(x + 1, sm), ⟨by dsimp only; omega, ⟨hm.h.imp fun y hy => ?_⟩⟩, by dsimp only; omega, ?_⟩
      · rw [List.take_length, hmem.h y hy]
        exact ⟨fun h => h.elim (fun ⟨u, hu, hr⟩ => ⟨u, by omega, hr⟩) fun h => ⟨x, by omega, h⟩, fun ⟨u, hu, hr⟩ => by
          by_cases e : u = x
          · subst e; exact .inr hr
          · exact .inl ⟨u, by omega, hr⟩⟩
      · dsimp only
        rw [l1, e1]
        exact Sub.toFF (fun _ => False) (Fr.fit_cons rfl (.refl _) (Fr.fit_cons rfl (.refl _) (Fr.fit_cons rfl (.refl _) (Fr.fit_cons rfl (.refl _) (Fr.fit_cons rfl (.refl _) (Fr.fit_cons rfl (.refl _) (Fr.fit_nil _))))))) (leF_upd rfl (bfE rfl (ap_ints (partK n (Rch gs) x) o)) (leF_upd rfl (bfE rfl (fun i hi => rfl)) leF_emp id) id)
  · have e : x = n := by omega
    subst e
    exact end_retF rfl rfl (fits_II rfl trivial rfl rfl)
end Go.Proofs.Ytngpacdhpblpbaa
end
