import Derived.Test.YtpffmolibjimgaaGreatDoorJ33
namespace Go.Proofs.YtpffmolibjimgaaGreatDoor
open Go.Av
set_option linter.unusedSimpArgs false
set_option linter.unusedVariables false
attribute [local irreducible] AWP CallG Ob Br BrP Go.Av.Sub endQ AOps OpV AC thenA blkA opsVC opVC withA withArgs opsQ opQ CallQ withA2 withArgs2
theorem pzT_scrub (p : Pz) (b : Bool) (q : Nat → Bool) : (AV.tup 2 (vecF [pz p, .v (.bool (b))])).scrub q = .tup 2 (vecF [pz p, .v (.bool (b))]) := by
  have := pz_scrub p q
  simp only [scrub_tup, scF_vecF, List.map_cons, List.map_nil, this]; rfl
theorem pzoT_scrub (p : Pz) (d : Nat) (b : Bool) (q : Nat → Bool) (h : q d = false) : (AV.tup 2 (vecF [pzo p d, .v (.bool (b))])).scrub q = .tup 2 (vecF [pzo p d, .v (.bool (b))]) := by
  have := pzo_scrub p d q h
  simp only [scrub_tup, scF_vecF, List.map_cons, List.map_nil, this]; rfl
theorem pzoT_solid (p : Pz) (d : Nat) (b : Bool) : (AV.tup 2 (vecF [pzo p d, .v (.bool (b))])).solid := fun i hi => by
  match i, hi with
  | 0, _ => exact pzo_solid p d
  | 1, _ => exact trivial
theorem fits_mk {H : Hp} {D : Nat → Prop} {n : Int} {s : ByteArray} {d m : Nat} {R : List (List Int)} (h : HasRR H d R) (hD : D d) (hDs : ∀ i, D (sub d i)) (hm : m = R.length) : Fits H D (.agg 3 (vecF [.v (.int .i64 n), .v (.string s), .own d 0 1 m])) (pz ⟨n, s, R⟩) := by
  subst hm
  exact fits_pz (p := ⟨n, s, R⟩) h hD hDs
set_option maxHeartbeats 4000000 in
theorem lawKnownPuzzle_ok (x : Int) : AC Tryz.prog 3 [.v (.int .i64 (x))] Hp.emp (fun _ => false) (retV (.v (.bool (true)))) := by
  by_cases hx : 0 ≤ x ∧ x ≤ 5
  · obtain ⟨k, rfl⟩ : ∃ k : Nat, x = k := ⟨x.toNat, by omega⟩
    have hk : k < 6 := by omega
    have a1 := specKnown_ok k hk
    have a2 := implKnown_ok k hk 900 (by omega)
    have a3 := implKnown_ok k hk 910 (by omega)
    have hml : (kpI k).m.length ≤ 4 := by
      have h1 : (kpI k).m.length = (kpT k).2.length := iR_len _ _
      have := (kpT_prop k).2.1
      omega
    have hmr : ∀ j, ((kpI k).m.getD j []).length ≤ 20 := fun j => iR_row _ _ j
    obtain ⟨p, ep⟩ : ∃ p, p = kpI k := ⟨_, rfl⟩
    rw [← ep] at a1 a2 a3 hml hmr
    have htt : tot p.m ≤ 80 := by
      have key : ∀ (l : List (List Int)), (∀ j, (l.getD j []).length ≤ 20) → tot l ≤ l.length * 20 := fun l => by
        induction l with
        | nil => intro _; exact Nat.le_refl _
        | cons y l ih =>
          intro h
          have h1 := ih (fun j => by simpa using h (j + 1))
          have h2 := h 0
          simp only [List.getD_cons_zero] at h2
          simp only [tot, List.map_cons, List.sum_cons, List.length_cons] at h1 ⊢
          omega
      have := key p.m hmr
      omega
    have hmr := Hold.mk hmr
    have hmk := mkR_length 1 p.m
    have a4 := Hold.mk (heldPuzzle_ok ⟨p.n, p.s, mkR 1 p.m⟩ p.m rfl (by omega) (fun j => by have := hmr.h j; omega) (by omega))
    refine ac_of_awp (N := ⟨_, fun _ => false, fun _ _ => rfl, true⟩) Tryz.func3 rfl (by kernel_rfl) Tryz.ntmps3 (by simp) ?_
    simp only [argsFr, List.zipIdx_cons, List.zipIdx_nil, go_sem]
    repeat' (first | refine awp_seqK fun K hK => ?_ | (refine awp_regionK 5206162406727747581 rfl ?_; simp only [List.map_cons, List.map_nil]; simp (maxSteps := 1000000) (dsimp := false) (implicitDefEqProofs := false) (disch := omega) only [wrap64, go_sem]) | (refine awp_regionQK 5206162406727747581 (by kernel_rfl) (by kernel_rfl) (by kernel_rfl) ?_; simp only [List.map_cons, List.map_nil]; simp (maxSteps := 1000000) (dsimp := false) (implicitDefEqProofs := false) (disch := omega) only [wrap64, go_sem]) | refine awp_block ?_ | (refine awp_skip ?_; simp only [go_sem]) | (refine awp_exit ?_; simp only [go_sem]) | (refine awp_ret ?_; try simp only [go_sem]) | (refine awp_condP rfl ?_; try simp only [go_sem]) | (refine BrP.mk (fun h => ?_) (fun h => ?_) <;> try simp (dsimp := false) (disch := omega) only [wrap64]) | (refine Br.mk (fun h => ?_) (fun h => ?_) <;> try simp (dsimp := false) (disch := omega) only [wrap64]) | refine Ob.mk (by first | omega | (intro _ _; rfl) | trivial | (intros; trivial) | assumption | (intro i hi; have h0 : i = 0 := (by omega); subst h0; first | rfl | trivial) | (intro i hi; have h0 : i = 0 ∨ i = 1 := (by omega); rcases h0 with rfl | rfl <;> rfl) | (intro i hi; have h0 : i = 0 ∨ i = 1 ∨ i = 2 := (by omega); rcases h0 with rfl | rfl | rfl <;> rfl)) ?_ | ((first | ((first | refine atF (f := 6) ?_ | refine atQ (f := 6) ?_); (refine cR (hac := a1) (hK := ?_) (hs := pzT_scrub _ _ _))) | ((first | refine atF (f := 7) ?_ | refine atQ (f := 7) ?_); (first | refine callRR rfl (.cons (.refl _) .nil) a2 (by omega) (by omega) (fun _ _ => rfl) (pzoT_solid p _ _) (pzoT_scrub p 900 _) ?_ | refine callRR rfl (.cons (.refl _) .nil) a3 (by omega) (by omega) (fun _ _ => rfl) (pzoT_solid p _ _) (pzoT_scrub p 910 _) ?_)) | ((first | refine atF (f := 8) ?_ | refine atQ (f := 8) ?_); (first | (refine cV (hac := eqPuzzle_ok p p (by omega) (fun j => by have := hmr.h j; omega)) (hK := ?_)) | (refine cQV (hac := eqPuzzle_ok p p (by omega) (fun j => by have := hmr.h j; omega)) (hK := ?_)))) | ((first | refine atF (f := 9) ?_ | refine atQ (f := 9) ?_); (first | (refine callMM (by (repeat' (first | exact HasRR.base (by omega) (by first | omega | assumption | (have := szP_len (by assumption); omega)) | exact HasRR.bare (by omega) (by first | omega | assumption) | refine HasRR.upd (by decide) (by decide) ?_ | refine HasRR.add (by decide) (by decide) (by first | omega | (have := szP_len (by assumption); omega)) (by decide) ?_)); first | done | fail) (markPuzzle_ok p 1 (by omega) (by omega) (fun j => by have := hmr.h j; omega) (by omega) 900 (by omega)) (by first | exact mkR_length _ _ | simp) (by omega) (by omega) (fun _ => rfl) ?_))) | ((first | refine atF (f := 10) ?_ | refine atQ (f := 10) ?_); (refine cV (hfit := .cons (fits_mk (by repeat' (first | exact HasRR.base (by omega) (by omega) | exact HasRR.bare (by omega) (by omega) | refine HasRR.upd (by decide) (by decide) ?_ | refine HasRR.add (by decide) (by decide) (by omega) (by decide) ?_)) trivial (fun _ => trivial) (by omega)) (.cons (.refl _) .nil)) (hac := a4.h) (hK := ?_)))); simp (maxSteps := 1000000) (dsimp := false) (implicitDefEqProofs := false) (disch := omega) only [wrap64, go_sem]) | apply_assumption -exfalso -symm)
    all_goals (first | (show endQ _ _ _ _ _ _ _; (repeat (rename (∀ (A : Fr) (H : Hp), AWP _ _ _ _ A H → _) => hK; clear hK)); (repeat (rename (Fr → Hp → Prop) => K; clear K))) | (show Exists _; (repeat (rename (∀ (A : Fr) (H : Hp), AWP _ _ _ _ A H → _) => hK; clear hK)); (repeat (rename (Fr → Hp → Prop) => K; clear K))) | skip)
    all_goals first | exact end_retV rfl rfl | omega
  · have a1 := specKnownNo_ok x hx
    have a2 := implKnownNo_ok x hx
    have a3 := markNilP_ok
    have a4 : AC Tryz.prog 10 [pz ⟨0, ⟨#[]⟩, []⟩, .v (.int .i64 (1))] Hp.emp (fun _ => false) (retV (.v (.int .i64 (1)))) := heldPuzzle_ok ⟨0, ⟨#[]⟩, []⟩ [] rfl (by decide) (fun j => by simp) (by decide)
    refine ac_of_awp (N := ⟨_, fun _ => false, fun _ _ => rfl, true⟩) Tryz.func3 rfl (by kernel_rfl) Tryz.ntmps3 (by simp) ?_
    simp only [argsFr, List.zipIdx_cons, List.zipIdx_nil, go_sem]
    repeat' (first | refine awp_seqK fun K hK => ?_ | (refine awp_regionK 5206162406727747581 rfl ?_; simp only [List.map_cons, List.map_nil]; simp (maxSteps := 1000000) (dsimp := false) (implicitDefEqProofs := false) (disch := omega) only [wrap64, go_sem]) | (refine awp_regionQK 5206162406727747581 (by kernel_rfl) (by kernel_rfl) (by kernel_rfl) ?_; simp only [List.map_cons, List.map_nil]; simp (maxSteps := 1000000) (dsimp := false) (implicitDefEqProofs := false) (disch := omega) only [wrap64, go_sem]) | refine awp_block ?_ | (refine awp_skip ?_; simp only [go_sem]) | (refine awp_exit ?_; simp only [go_sem]) | (refine awp_ret ?_; try simp only [go_sem]) | (refine awp_condP rfl ?_; try simp only [go_sem]) | (refine BrP.mk (fun h => ?_) (fun h => ?_) <;> try simp (dsimp := false) (disch := omega) only [wrap64]) | (refine Br.mk (fun h => ?_) (fun h => ?_) <;> try simp (dsimp := false) (disch := omega) only [wrap64]) | refine Ob.mk (by first | omega | (intro _ _; rfl) | trivial | (intros; trivial) | assumption | (intro i hi; have h0 : i = 0 := (by omega); subst h0; first | rfl | trivial) | (intro i hi; have h0 : i = 0 ∨ i = 1 := (by omega); rcases h0 with rfl | rfl <;> rfl) | (intro i hi; have h0 : i = 0 ∨ i = 1 ∨ i = 2 := (by omega); rcases h0 with rfl | rfl | rfl <;> rfl)) ?_ | ((first | ((first | refine atF (f := 6) ?_ | refine atQ (f := 6) ?_); (refine cR (hac := a1) (hK := ?_) (hs := pzT_scrub _ _ _))) | ((first | refine atF (f := 7) ?_ | refine atQ (f := 7) ?_); (refine cR (hac := a2) (hK := ?_) (hs := pzT_scrub _ _ _))) | ((first | refine atF (f := 8) ?_ | refine atQ (f := 8) ?_); (first | (refine cV (hac := eqPuzzle_ok ⟨0, ⟨#[]⟩, []⟩ ⟨0, ⟨#[]⟩, []⟩ (by simp) (fun j => by simp)) (hK := ?_)) | (refine cQV (hac := eqPuzzle_ok ⟨0, ⟨#[]⟩, []⟩ ⟨0, ⟨#[]⟩, []⟩ (by simp) (fun j => by simp)) (hK := ?_)))) | (refine cV (hac := a3) (hK := ?_)) | (refine cQV (hac := a3) (hK := ?_)) | (refine cV (hac := a4) (hK := ?_)) | (refine cQV (hac := a4) (hK := ?_))); simp (maxSteps := 1000000) (dsimp := false) (implicitDefEqProofs := false) (disch := omega) only [wrap64, go_sem]) | apply_assumption -exfalso -symm)
    all_goals (first | (show endQ _ _ _ _ _ _ _; (repeat (rename (∀ (A : Fr) (H : Hp), AWP _ _ _ _ A H → _) => hK; clear hK)); (repeat (rename (Fr → Hp → Prop) => K; clear K))) | (show Exists _; (repeat (rename (∀ (A : Fr) (H : Hp), AWP _ _ _ _ A H → _) => hK; clear hK)); (repeat (rename (Fr → Hp → Prop) => K; clear K))) | skip)
    all_goals first | exact end_retV rfl rfl | omega
end Go.Proofs.YtpffmolibjimgaaGreatDoor
