import Derived.Test.YtpffmolibjimgaaGreatDoorQ33
import Derived.Test.YtpffmolibjimgaaGreatDoorQ40
import Derived.Test.YtpffmolibjimgaaGreatDoorQ18
namespace Go.Proofs.YtpffmolibjimgaaGreatDoor
open Go.Av
set_option linter.unusedSimpArgs false
set_option linter.unusedVariables false
attribute [local irreducible] AWP CallG Ob Br BrP Go.Av.Sub endQ AOps OpV AC thenA blkA opsVC opVC withA withArgs opsQ opQ CallQ withA2 withArgs2
theorem fits_p9 {H : Hp} {D : Nat → Prop} {p : Pz} {g : Nat → AV} (h0 : g 0 = .v (.int .i64 (p.n))) (h1 : g 1 = .v (.string (p.s))) (h2 : g 2 = .list false 1 (p.m).length (cM ints [] (p.m))) : Fits H D (.agg 3 g) (pz p) := by
  refine .agg fun i hi => ?_
  match i, hi with
  | 0, _ => rw [h0]; exact .refl _
  | 1, _ => rw [h1]; exact .refl _
  | 2, _ => rw [h2]; exact .refl _
theorem kpv_all : ∀ k : Fin 6, isPz (kpI k.val) ∧ ((kpI k.val).s.size ≤ 4 ∧ ∀ i : Fin 4, i.val < (kpI k.val).s.size → mvIx (kpI k.val) ((kpI k.val).s.extract i.val (i.val + 1)) = i.val) ∧ mvIx (kpI k.val) ⟨#[90]⟩ = -1 := by decide +kernel
theorem kpT_scrub (p : Pz) (b : Bool) (q : Nat → Bool) : (AV.tup 2 (vecF [pz p, .v (.bool (b))])).scrub q = .tup 2 (vecF [pz p, .v (.bool (b))]) := by
  have := pz_scrub p q
  simp only [scrub_tup, scF_vecF, List.map_cons, List.map_nil, this]; rfl
theorem kpoT_scrub (p : Pz) (d : Nat) (b : Bool) (q : Nat → Bool) (h : q d = false) : (AV.tup 2 (vecF [pzo p d, .v (.bool (b))])).scrub q = .tup 2 (vecF [pzo p d, .v (.bool (b))]) := by
  have := pzo_scrub p d q h
  simp only [scrub_tup, scF_vecF, List.map_cons, List.map_nil, this]; rfl
theorem kpoT_solid (p : Pz) (d : Nat) (b : Bool) : (AV.tup 2 (vecF [pzo p d, .v (.bool (b))])).solid := fun i hi => by
  match i, hi with
  | 0, _ => exact pzo_solid p d
  | 1, _ => exact trivial
set_option maxHeartbeats 8000000 in
theorem lawKnownPuzzles_ok (xs : List Int) (hl : xs.length ≤ 9223372036854775807) (hb : ∀ j, 0 ≤ xs.getD j 0 ∧ xs.getD j 0 ≤ 255) : AC Tryz.prog 5 [bts xs] Hp.emp (fun _ => false) (retV (.v (.bool (true)))) := by
  have hno := implKnownNo_ok 6 (by omega)
  refine ac_of_awp (N := ⟨_, fun _ => false, fun _ _ => rfl, true⟩) Tryz.func5 rfl (by kernel_rfl) Tryz.ntmps5 (by simp) ?_
  simp only [argsFr, List.zipIdx_cons, List.zipIdx_nil, go_sem]
  repeat' (first | ((first | refine atF (f := 22) ?_ | refine atQ (f := 22) ?_); (refine callRoll (roll_ok xs 906 hb (by omega)) rfl (fun d0 => ?_)) <;> simp (maxSteps := 1000000) (dsimp := false) (implicitDefEqProofs := false) (disch := omega) only [wrap64, go_sem]) | ((first | refine atF (f := 23) ?_ | refine atQ (f := 23) ?_); (refine callD (by rfl) (dBelow_ok _ 6 (by omega)) (by rintro _ ⟨v, _, rfl⟩ _; rfl) (fun r d' hq => ?_); obtain ⟨v, hv, rfl⟩ := hq; obtain ⟨k, rfl⟩ : ∃ k : Nat, v = k := ⟨v.toNat, by omega⟩; have hk : k < 6 := (by omega)) <;> simp (maxSteps := 1000000) (dsimp := false) (implicitDefEqProofs := false) (disch := omega) only [wrap64, go_sem]) | refine awp_seqK fun K hK => ?_ | (refine awp_regionK 9225694205412649725 rfl ?_; simp only [List.map_cons, List.map_nil]; simp (maxSteps := 1000000) (dsimp := false) (implicitDefEqProofs := false) (disch := omega) only [wrap64, go_sem]) | (refine awp_regionQK 9225694205412649725 (by kernel_rfl) (by kernel_rfl) (by kernel_rfl) ?_; simp only [List.map_cons, List.map_nil]; simp (maxSteps := 1000000) (dsimp := false) (implicitDefEqProofs := false) (disch := omega) only [wrap64, go_sem]) | refine awp_block ?_ | (refine awp_skip ?_; simp only [go_sem]) | (refine awp_exit ?_; simp only [go_sem]) | (refine awp_ret ?_; try simp only [go_sem]) | (refine awp_condP rfl ?_; try simp only [go_sem]) | (refine BrP.mk (fun h => ?_) (fun h => ?_) <;> try simp (dsimp := false) (disch := omega) only [wrap64]) | (refine Br.mk (fun h => ?_) (fun h => ?_) <;> try simp (dsimp := false) (disch := omega) only [wrap64]) | refine Ob.mk (by first | omega | (intro _ _; rfl) | trivial | (intros; trivial) | assumption | (intro i hi; have h0 : i = 0 := (by omega); subst h0; first | rfl | trivial) | (intro i hi; have h0 : i = 0 ∨ i = 1 := (by omega); rcases h0 with rfl | rfl <;> rfl) | (intro i hi; have h0 : i = 0 ∨ i = 1 ∨ i = 2 := (by omega); rcases h0 with rfl | rfl | rfl <;> rfl)) ?_ | ((first | ((first | refine atF (f := 11) ?_ | refine atQ (f := 11) ?_); (first | (refine cV (hac := big_ok xs) (hK := ?_)) | (refine cQV (hac := big_ok xs) (hK := ?_))))); simp (maxSteps := 1000000) (dsimp := false) (implicitDefEqProofs := false) (disch := omega) only [wrap64, go_sem]) | apply_assumption -exfalso -symm)
  all_goals (first | (show endQ _ _ _ _ _ _ _; (repeat (rename (∀ (A : Fr) (H : Hp), AWP _ _ _ _ A H → _) => hK; clear hK)); (repeat (rename (Fr → Hp → Prop) => K; clear K))) | (show Exists _; (repeat (rename (∀ (A : Fr) (H : Hp), AWP _ _ _ _ A H → _) => hK; clear hK)); (repeat (rename (Fr → Hp → Prop) => K; clear K))) | skip)
  · exact end_retV rfl rfl
  have a1 := specKnown_ok k hk
  have a2 := implKnown_ok k hk 900 (by omega)
  obtain ⟨hpz, ⟨hs4, hmv⟩, hz⟩ := kpv_all ⟨k, hk⟩
  dsimp only at hpz hs4 hmv hz
  have hml : (kpI k).m.length ≤ 4 := by
    have h1 : (kpI k).m.length = (kpT k).2.length := iR_len _ _
    have := (kpT_prop k).2.1
    omega
  obtain ⟨p, ep⟩ : ∃ p, p = kpI k := ⟨_, rfl⟩
  rw [← ep] at a1 a2 hpz hs4 hmv hz hml
  have hsame : isSame p p := ⟨hpz, hpz, rfl, rfl, rfl⟩
  have d1 : decide (isPz p) = true := decide_eq_true hpz
  have d2 : decide (isSame p p) = true := decide_eq_true hsame
  have hgo := implGroupOrderG_ok p.n p.m hpz.1
  have hcn := cntP_eq hpz
  repeat' (first | refine awp_seqK fun K hK => ?_ | (refine awp_regionK 9225694205412649725 rfl ?_; simp only [List.map_cons, List.map_nil]; simp (maxSteps := 1000000) (dsimp := false) (implicitDefEqProofs := false) (disch := omega) only [wrap64, go_sem, d1, d2]) | (refine awp_regionQK 9225694205412649725 (by kernel_rfl) (by kernel_rfl) (by kernel_rfl) ?_; simp only [List.map_cons, List.map_nil]; simp (maxSteps := 1000000) (dsimp := false) (implicitDefEqProofs := false) (disch := omega) only [wrap64, go_sem, d1, d2]) | refine awp_block ?_ | (refine awp_skip ?_; simp only [go_sem, d1, d2]) | (refine awp_exit ?_; simp only [go_sem, d1, d2]) | (refine awp_ret ?_; try simp only [go_sem, d1, d2]) | (refine awp_condP rfl ?_; try simp only [go_sem, d1, d2]) | (refine BrP.mk (fun h => ?_) (fun h => ?_) <;> try simp (dsimp := false) (disch := omega) only [wrap64]) | (refine Br.mk (fun h => ?_) (fun h => ?_) <;> try simp (dsimp := false) (disch := omega) only [wrap64]) | refine Ob.mk (by first | omega | (intro _ _; rfl) | trivial | (intros; trivial) | assumption | (intro i hi; have h0 : i = 0 := (by omega); subst h0; first | rfl | trivial) | (intro i hi; have h0 : i = 0 ∨ i = 1 := (by omega); rcases h0 with rfl | rfl <;> rfl) | (intro i hi; have h0 : i = 0 ∨ i = 1 ∨ i = 2 := (by omega); rcases h0 with rfl | rfl | rfl <;> rfl)) ?_ | ((first | ((first | refine atF (f := 6) ?_ | refine atQ (f := 6) ?_); (refine cR (hac := a1) (hK := ?_) (hs := kpT_scrub _ _ _))) | ((first | refine atF (f := 7) ?_ | refine atQ (f := 7) ?_); (refine callRR rfl (.cons (.refl _) .nil) a2 (by omega) (by omega) (fun _ _ => rfl) (kpoT_solid p _ _) (kpoT_scrub p 900 _) ?_)) | ((first | refine atF (f := 24) ?_ | refine atQ (f := 24) ?_); (first | (refine cV (hac := implIsValidPuzzle_ok p (by omega)) (hK := ?_)) | (refine cQV (hac := implIsValidPuzzle_ok p (by omega)) (hK := ?_)))) | ((first | refine atF (f := 25) ?_ | refine atQ (f := 25) ?_); (first | (refine cV (hac := specSamePuzzle_ok p p) (hK := ?_)) | (refine cQV (hac := specSamePuzzle_ok p p) (hK := ?_)))) | ((first | refine atF (f := 26) ?_ | refine atQ (f := 26) ?_); (first | (refine cV (hac := implSamePuzzle_ok p p (by omega) (by omega)) (hK := ?_)) | (refine cQV (hac := implSamePuzzle_ok p p (by omega) (by omega)) (hK := ?_))))); simp (maxSteps := 1000000) (dsimp := false) (implicitDefEqProofs := false) (disch := omega) only [wrap64, go_sem, d1, d2]) | apply_assumption -exfalso -symm)
  all_goals (first | (show endQ _ _ _ _ _ _ _; (repeat (rename (∀ (A : Fr) (H : Hp), AWP _ _ _ _ A H → _) => hK; clear hK)); (repeat (rename (Fr → Hp → Prop) => K; clear K))) | (show Exists _; (repeat (rename (∀ (A : Fr) (H : Hp), AWP _ _ _ _ A H → _) => hK; clear hK)); (repeat (rename (Fr → Hp → Prop) => K; clear K))) | skip)
  clear a1 a2
  refine awp_loop (ι := Nat) (fun i => [(9, .v (.int .i64 ((i : Nat)))), (5, .ref 5 0)]) (fun i => Hp.emp.upd 5 (.cells 3 (vecF [.v (.int .i64 p.n), .v (.string p.s), intss p.m]))) (fun i => i ≤ p.s.size) (fun i => p.s.size - i) 0 (Nat.zero_le _) (Sub.toFF (fun x => x ≠ 5) (Fr.fit_cons rfl (.refl _) (Fr.fit_cons rfl (.refl _) (Fr.fit_nil _))) (leF_upd rfl ⟨rfl, fun i hi => ?_⟩ leF_emp (by decide))) ?_
  · match i, hi with
    | 0, _ => exact .refl _
    | 1, _ => exact .refl _
    | 2, _ => exact fits_RR (by repeat' (first | exact HasRR.base (by omega) (by omega) | exact HasRR.bare (by omega) (by omega) | refine HasRR.upd (by decide) (by decide) ?_)) (by decide) (fun i => by have := sub_ge 900 i; rw [FB_eq] at this; show sub 900 i ≠ 5; omega) rfl
  intro i hi
  have hmi : i < p.s.size → mvIx p (p.s.extract i (((i : Nat) : Int) + 1).toNat) = i := fun h => by
    have := hmv ⟨i, by omega⟩ h
    exact this
  have hes : (p.s.extract i (((i : Nat) : Int) + 1).toNat).size ≤ 4 := by rw [ByteArray.size_extract]; omega
  obtain ⟨w, ew⟩ : ∃ w, w = p.s.extract i (((i : Nat) : Int) + 1).toNat := ⟨_, rfl⟩
  rw [← ew] at hmi hes
  have ew2 := ew.symm
  have hmx := Hold.mk (implMoveIndex_ok p w (by omega) (by omega))
  have hmz := Hold.mk (implMoveIndex_ok p ⟨#[90]⟩ (by omega) (by decide))
  rw [hz] at hmz
  have hsc := Hold.mk (implStateCount_ok p (by omega))
  rw [hcn] at hsc
  obtain ⟨N, eN⟩ : ∃ N, N = Go.Pm.ordG p.n.toNat p.m := ⟨_, rfl⟩
  rw [← eN] at hsc hgo
  clear hcn
  repeat' (first | refine awp_seqK fun K hK => ?_ | (refine awp_regionK 9225694205412649725 rfl ?_; simp only [List.map_cons, List.map_nil]; simp (maxSteps := 1000000) (dsimp := false) (implicitDefEqProofs := false) (disch := omega) only [wrap64, go_sem, ew2]) | (refine awp_regionQK 9225694205412649725 (by kernel_rfl) (by kernel_rfl) (by kernel_rfl) ?_; simp only [List.map_cons, List.map_nil]; simp (maxSteps := 1000000) (dsimp := false) (implicitDefEqProofs := false) (disch := omega) only [wrap64, go_sem, ew2]) | refine awp_block ?_ | (refine awp_skip ?_; simp only [go_sem, ew2]) | (refine awp_exit ?_; simp only [go_sem, ew2]) | (refine awp_ret ?_; try simp only [go_sem, ew2]) | (refine awp_condP rfl ?_; try simp only [go_sem, ew2]) | (refine BrP.mk (fun h => ?_) (fun h => ?_) <;> try simp (dsimp := false) (disch := omega) only [wrap64]) | (refine Br.mk (fun h => ?_) (fun h => ?_) <;> try simp (dsimp := false) (disch := omega) only [wrap64]) | refine Ob.mk (by first | omega | (intro _ _; rfl) | trivial | (intros; trivial) | assumption | (intro i hi; have h0 : i = 0 := (by omega); subst h0; first | rfl | trivial) | (intro i hi; have h0 : i = 0 ∨ i = 1 := (by omega); rcases h0 with rfl | rfl <;> rfl) | (intro i hi; have h0 : i = 0 ∨ i = 1 ∨ i = 2 := (by omega); rcases h0 with rfl | rfl | rfl <;> rfl)) ?_ | ((first | ((first | refine atF (f := 27) ?_ | refine atQ (f := 27) ?_); (first | refine cV (hfit := .cons (fits_p9 rfl rfl rfl) (.cons (.refl _) .nil)) (hac := hmx.h) (hK := ?_) | refine cQV (hfit := .cons (fits_p9 rfl rfl rfl) (.cons (.refl _) .nil)) (hac := hmx.h) (hK := ?_) | refine cV (hfit := .cons (fits_p9 rfl rfl rfl) (.cons (.refl _) .nil)) (hac := hmz.h) (hK := ?_) | refine cQV (hfit := .cons (fits_p9 rfl rfl rfl) (.cons (.refl _) .nil)) (hac := hmz.h) (hK := ?_))) | ((first | refine atF (f := 7) ?_ | refine atQ (f := 7) ?_); (refine cR (hac := hno) (hK := ?_) (hs := kpT_scrub _ _ _))) | ((first | refine atF (f := 28) ?_ | refine atQ (f := 28) ?_); (first | refine cV (hfit := .cons (fits_p9 rfl rfl rfl) .nil) (hac := hsc.h) (hK := ?_) | refine cQV (hfit := .cons (fits_p9 rfl rfl rfl) .nil) (hac := hsc.h) (hK := ?_))) | (refine cV (hac := hgo) (hK := ?_)) | (refine cQV (hac := hgo) (hK := ?_))); simp (maxSteps := 1000000) (dsimp := false) (implicitDefEqProofs := false) (disch := omega) only [wrap64, go_sem, ew2]) | apply_assumption -exfalso -symm)
  all_goals (first | (show endQ _ _ _ _ _ _ _; (repeat (rename (∀ (A : Fr) (H : Hp), AWP _ _ _ _ A H → _) => hK; clear hK)); (repeat (rename (Fr → Hp → Prop) => K; clear K))) | (show Exists _; (repeat (rename (∀ (A : Fr) (H : Hp), AWP _ _ _ _ A H → _) => hK; clear hK)); (repeat (rename (Fr → Hp → Prop) => K; clear K))) | skip)
  · exact ⟨i + 1, by omega, by omega, Sub.toL (by simp only [go_sem] <;> first | trivial | (simp only [Option.some.injEq, AV.v.injEq, AV.own.injEq, AV.list.injEq, Value.int.injEq, Value.bool.injEq, true_and, and_true]; first | omega | (simp; done)) | (simp; done) | (simp; omega)) (Hp.le_refl _)⟩
  all_goals (first | exact end_retV rfl rfl | exact absurd (hmi (by omega)) (by assumption))
end Go.Proofs.YtpffmolibjimgaaGreatDoor
