import Derived.Test.YtpffmolibjimgaaJ26
import Derived.Test.YtpffmolibjimgaaJ3
/- The conjugator found by the reference (what it hands back: a short row), and what is drawn for it. -/
section
namespace Go.Proofs.Ytpffmolibjimgaa
open Go.Av
set_option linter.unusedSimpArgs false
set_option linter.unusedVariables false
attribute [local irreducible] AWP CallG Ob Br BrP Go.Av.Sub endQ AOps OpV AC thenA blkA opsVC opVC withA withArgs opsQ opQ CallQ withA2 withArgs2
section
variable {P : Program} {N : Cx} {A : Fr} {H : Hp}
/-- A call whose frozen result may hold parts of its arguments: what is kept beside it must not be handed to it. -/
theorem callXk (H' : Hp) {f : FuncId} {args args' : List AV} {pn : Nat → Bool} {Q : AV → Prop} {K : AV → Fr → Hp → Prop} (hle : Hp.le H' H) (hfit : FitsL H (fun h => H' h = none) args args') (hac : AC P f args' Hp.emp pn (postX Q)) (hQ : ∀ r, Q r → ∀ p, r.scrub p = r) (hK : ∀ r, Q r → K r A H') : CallG P N f args A H K := by
  have h := callX (N := N) (A := A) (H := H') hac hQ hK
  unfold CallG at h ⊢
  refine ⟨h.1, fun w0 S hS w tm L s vs hvs => ?_⟩
  have ok : ∀ b, okb S H L b → okb S H' L b := fun b hb => ⟨hb.1, fun h q hn hq => hb.2 h q (fun e => by
    cases e2 : H' h with
    | none => exact hn e2
    | some B => rw [hle h B e2] at e; simp at e) hq⟩
  have nn : ∀ h, H' h ≠ none → H h ≠ none := fun h hn e => by
    cases e2 : H' h with
    | none => exact hn e2
    | some B => rw [hle h B e2] at e; simp at e
  have s' : Sim N.n w0 S w tm L A H' := by
    refine ⟨s.keep, s.size, fun i a h => Rd.mono (fun b _ hb => ok b hb) (s.slot i a h), fun h B hB => ?_, fun h q hn => s.own h q (nn h hn), fun h g q r hn hm => s.inj h g q r (nn h hn) (nn g hm), s.pin⟩
    have := BlkOk.step (w := w) (w' := w) (wh := w) (wh' := w) (ok := okb S H L) (ok' := okb S H' L) (L := L) (L' := L) (p := fun _ => false) (fun b _ hb => ⟨ok b hb, rfl⟩) (Shape.refl w) (fun _ _ => rfl) (fun _ _ => rfl) (s.blk h B (hle h B hB))
    rwa [Blk.scrub_none] at this
  refine h.2 w0 S hS w tm L s' vs ?_
  obtain ⟨k1, k2⟩ := hfit.args s hvs
  exact ⟨k1, fun i c hc => let ⟨u, h1, h2⟩ := k2 i c hc; ⟨u, h1, Rd.mono (fun b _ hb => ⟨hb.1, fun h q hn hq => hb.2 h q (nn h hn) hn hq⟩) h2⟩⟩
theorem fits_apx {D : Nat → Prop} {h n : Nat} {F : Nat → AV} {xs : List Int} (hH : H h = some (.cells n F)) (hD : D h) (hn : n = xs.length) (hf : ∀ i, i < n → F i = cM iv 0 xs i) : Fits H D (.own h 0 1 n) (ints xs) := by
  subst hn
  refine .own hH hD (by omega) (fun _ _ => trivial) fun i hi => ?_
  rw [Nat.zero_add]
  exact .ofEq (hf i (by omega))
theorem apx (q : Nat → Bool) (xs : List Int) (v : Int) : ∀ i, i < xs.length + 1 → apF xs.length (scF q (cM iv 0 xs)) (scF q (cM iv 0 [v])) i = cM iv 0 (xs ++ [v]) i := fun i hi => by
  by_cases h : i < xs.length
  · simp [apF, scF, cM, iv, AV.scrub, List.getD_eq_getElem?_getD, List.getElem?_append, h]
  · have e : i = xs.length := by omega
    subst e
    simp [apF, scF, cM, iv, AV.scrub, List.getD_eq_getElem?_getD]
end
def rowQ (r : AV) : Prop := ∃ ys : List Int, ys.length ≤ 21 ∧ r = ints ys
theorem rowQ_scrub (r : AV) (h : rowQ r) (q : Nat → Bool) : r.scrub q = r := by obtain ⟨ys, _, rfl⟩ := h; rfl
theorem specExtend_ok (p q : List Int) (hp : p.length ≤ 20) : ∀ (f : Nat) (x : List Int), x.length + f = p.length → AC Try.prog 26 [ints p, ints q, ints x] Hp.emp (fun _ => false) (postX rowQ)
  | f, x, hx => by
    have ih : ∀ v : Int, x.length < p.length → AC Try.prog 26 [ints p, ints q, ints (x ++ [v])] Hp.emp (fun _ => false) (postX rowQ) := fun v hv => specExtend_ok p q hp (f - 1) (x ++ [v]) (by rw [List.length_append, List.length_singleton]; omega)
    have c1 := fun d => specConjugate_ok p x d
    have hcl : (cnjU p x).1.length ≤ 1048576 := by
      unfold cnjU
      split
      · rename_i h
        rw [show (Go.Pm.cnj p x) = Go.Pm.comp (Go.Pm.comp (Go.Pm.invp x) p) x from rfl, Go.Pm.comp_length, Go.Pm.comp_length]
        simp [Go.Pm.invp]; omega
      · exact Nat.zero_le _
    have c2 := equalInts_ok (cnjU p x).1 q hcl
    have ih := Hold.mk ih
    have c1 := Hold.mk c1
    have c2 := Hold.mk c2
    obtain ⟨C, eC⟩ : ∃ C, C = cnjU p x := ⟨_, rfl⟩
    rw [← eC] at c1 c2
    clear eC hcl
    refine ac_of_awp (N := ⟨_, fun _ => false, fun _ _ => rfl, true⟩) Try.func26 rfl (by kernel_rfl) Try.ntmps26 (by simp) ?_
    simp only [argsFr, List.zipIdx_cons, List.zipIdx_nil, go_sem]
    repeat' (first | refine awp_seqK fun K hK => ?_ | (refine awp_regionK 140808422559175 rfl ?_; simp only [List.map_cons, List.map_nil]; simp (maxSteps := 1000000) (dsimp := false) (implicitDefEqProofs := false) (disch := omega) only [wrap64, go_sem]) | (refine awp_regionQK 140808422559175 (by kernel_rfl) (by kernel_rfl) (by kernel_rfl) ?_; simp only [List.map_cons, List.map_nil]; simp (maxSteps := 1000000) (dsimp := false) (implicitDefEqProofs := false) (disch := omega) only [wrap64, go_sem]) | refine awp_block ?_ | (refine awp_skip ?_; simp only [go_sem]) | (refine awp_exit ?_; simp only [go_sem]) | (refine awp_ret ?_; try simp only [go_sem]) | (refine awp_condP rfl ?_; try simp only [go_sem]) | (refine BrP.mk (fun h => ?_) (fun h => ?_) <;> try simp (dsimp := false) (disch := omega) only [wrap64]) | (refine Br.mk (fun h => ?_) (fun h => ?_) <;> try simp (dsimp := false) (disch := omega) only [wrap64]) | refine Ob.mk (by first | omega | (intro _ _; rfl) | trivial | (intros; trivial) | assumption | (intro i hi; have h0 : i = 0 := (by omega); subst h0; first | rfl | trivial) | (intro i hi; have h0 : i = 0 ∨ i = 1 := (by omega); rcases h0 with rfl | rfl <;> rfl) | (intro i hi; have h0 : i = 0 ∨ i = 1 ∨ i = 2 := (by omega); rcases h0 with rfl | rfl | rfl <;> rfl)) ?_ | ((first | ((first | refine atF (f := 17) ?_ | refine atQ (f := 17) ?_); (refine cFIB (hac := c1.h 40) (hK := ?_))) | ((first | refine atF (f := 27) ?_ | refine atQ (f := 27) ?_); (refine cV (hfit := .cons (.refl _) (.cons (.refl _) .nil)) (hac := c2.h) (hK := ?_)))); simp (maxSteps := 1000000) (dsimp := false) (implicitDefEqProofs := false) (disch := omega) only [wrap64, go_sem]) | apply_assumption -exfalso -symm)
    all_goals (first | (show endQ _ _ _ _ _ _ _; (repeat (rename (∀ (A : Fr) (H : Hp), AWP _ _ _ _ A H → _) => hK; clear hK)); (repeat (rename (Fr → Hp → Prop) => K; clear K))) | (show Exists _; (repeat (rename (∀ (A : Fr) (H : Hp), AWP _ _ _ _ A H → _) => hK; clear hK)); (repeat (rename (Fr → Hp → Prop) => K; clear K))) | skip)
    · exact end_X rfl rfl (.refl _) ⟨x, by omega, rfl⟩
    · exact end_X rfl rfl (fits_I (xs := []) rfl trivial rfl rfl) ⟨[], Nat.zero_le _, rfl⟩
    refine awp_loop (ι := Nat) (fun v => [(10, .v (.int .i64 (v))), (7, .v (.int .i64 (p.length))), (0, ints p), (1, ints q), (2, ints x)]) (fun _ => Hp.emp) (fun v => v ≤ p.length) (fun v => p.length - v) 0 (Nat.zero_le _) (Sub.toL (by simp only [go_sem] <;> first | trivial | (simp only [Option.some.injEq, AV.v.injEq, AV.own.injEq, AV.list.injEq, Value.int.injEq, Value.bool.injEq, true_and, and_true]; first | omega | (simp; done)) | (simp; done) | (simp; omega)) (Hp.le_emp _)) ?_
    intro v hv
    repeat' (first | ((first | refine atF (f := 26) ?_ | refine atQ (f := 26) ?_); (refine callXk Hp.emp (Hp.le_emp _) (.cons (.refl _) (.cons (.refl _) (.cons (fits_apx rfl rfl (by simp) (apx _ x _)) .nil))) (ih.h v (by omega)) rowQ_scrub (fun r hq => ?_); obtain ⟨ys, hys, rfl⟩ := hq) <;> simp (maxSteps := 1000000) (dsimp := false) (implicitDefEqProofs := false) (disch := omega) only [wrap64, go_sem]) | refine awp_seqK fun K hK => ?_ | (refine awp_regionK 140808422559175 rfl ?_; simp only [List.map_cons, List.map_nil]; simp (maxSteps := 1000000) (dsimp := false) (implicitDefEqProofs := false) (disch := omega) only [wrap64, go_sem]) | (refine awp_regionQK 140808422559175 (by kernel_rfl) (by kernel_rfl) (by kernel_rfl) ?_; simp only [List.map_cons, List.map_nil]; simp (maxSteps := 1000000) (dsimp := false) (implicitDefEqProofs := false) (disch := omega) only [wrap64, go_sem]) | refine awp_block ?_ | (refine awp_skip ?_; simp only [go_sem]) | (refine awp_exit ?_; simp only [go_sem]) | (refine awp_ret ?_; try simp only [go_sem]) | (refine awp_condP rfl ?_; try simp only [go_sem]) | (refine BrP.mk (fun h => ?_) (fun h => ?_) <;> try simp (dsimp := false) (disch := omega) only [wrap64]) | (refine Br.mk (fun h => ?_) (fun h => ?_) <;> try simp (dsimp := false) (disch := omega) only [wrap64]) | refine Ob.mk (by first | omega | (intro _ _; rfl) | trivial | (intros; trivial) | assumption | (intro i hi; have h0 : i = 0 := (by omega); subst h0; first | rfl | trivial) | (intro i hi; have h0 : i = 0 ∨ i = 1 := (by omega); rcases h0 with rfl | rfl <;> rfl) | (intro i hi; have h0 : i = 0 ∨ i = 1 ∨ i = 2 := (by omega); rcases h0 with rfl | rfl | rfl <;> rfl)) ?_ | ((first | ((first | refine atF (f := 30) ?_ | refine atQ (f := 30) ?_); (first | (refine cV (hac := containsInt_ok x v (by omega)) (hK := ?_)) | (refine cQV (hac := containsInt_ok x v (by omega)) (hK := ?_)))) | ((first | refine atF (f := 43) ?_ | refine atQ (f := 43) ?_); (first | (refine cI (hac := specCopyInts_ok x (by omega) 30) (hK := ?_)) | (refine cQI (hac := specCopyInts_ok x (by omega) 30) (hK := ?_))))); simp (maxSteps := 1000000) (dsimp := false) (implicitDefEqProofs := false) (disch := omega) only [wrap64, go_sem]) | apply_assumption -exfalso -symm)
    all_goals (first | (show endQ _ _ _ _ _ _ _; (repeat (rename (∀ (A : Fr) (H : Hp), AWP _ _ _ _ A H → _) => hK; clear hK)); (repeat (rename (Fr → Hp → Prop) => K; clear K))) | (show Exists _; (repeat (rename (∀ (A : Fr) (H : Hp), AWP _ _ _ _ A H → _) => hK; clear hK)); (repeat (rename (Fr → Hp → Prop) => K; clear K))) | skip)
    · exact ⟨v + 1, by omega, by omega, Sub.toL (by simp only [go_sem] <;> first | trivial | (simp only [Option.some.injEq, AV.v.injEq, AV.own.injEq, AV.list.injEq, Value.int.injEq, Value.bool.injEq, true_and, and_true]; first | omega | (simp; done)) | (simp; done) | (simp; omega)) (Hp.le_emp _)⟩
    · exact end_X rfl rfl (.refl _) ⟨ys, hys, rfl⟩
    · exact ⟨v + 1, by omega, by omega, Sub.toL (by simp only [go_sem] <;> first | trivial | (simp only [Option.some.injEq, AV.v.injEq, AV.own.injEq, AV.list.injEq, Value.int.injEq, Value.bool.injEq, true_and, and_true]; first | omega | (simp; done)) | (simp; done) | (simp; omega)) (Hp.le_emp _)⟩
    · exact end_X rfl rfl (fits_I (xs := []) rfl trivial rfl rfl) ⟨[], Nat.zero_le _, rfl⟩
/-- What the reference's FindConjugator answers. -/
def sfQ (p q : List Int) (r : AV) : Prop := ∃ ys : List Int, ys.length ≤ 21 ∧ r = .tup 2 (vecF [ints ys, .v (.bool (decide (sctP p q ∧ p.length ≤ 7)))])
theorem specFindConjugator_ok (p q : List Int) : AC Try.prog 8 [ints p, ints q] Hp.emp (fun _ => false) (postX (sfQ p q)) := by
  have hsm := specSameCycleType_ok p q
  have hE := Hold.mk (fun h : p.length ≤ 20 => specExtend_ok p q h p.length [] (by simp))
  by_cases h : sctP p q
  · have hd : decide (sctP p q ∧ p.length ≤ 7) = decide (p.length ≤ 7) := decide_eq_decide.2 ⟨fun x => x.2, fun x => ⟨h, x⟩⟩
    have hpq := h.1.1
    have h1 := ((isPerm_pm p).1 h.1.2.1).1
    rw [decide_eq_true h] at hsm
    unfold sfQ
    rw [hd]
    have hsm := Hold.mk hsm
    clear h
    refine ac_of_awp (N := ⟨_, fun _ => false, fun _ _ => rfl, true⟩) Try.func8 rfl (by kernel_rfl) Try.ntmps8 (by simp) ?_
    simp only [argsFr, List.zipIdx_cons, List.zipIdx_nil, go_sem]
    repeat' (first | ((first | refine atF (f := 26) ?_ | refine atQ (f := 26) ?_); (refine callXk Hp.emp (Hp.le_emp _) (.cons (.refl _) (.cons (.refl _) (.cons (fits_I rfl rfl rfl rfl) .nil))) (hE.h (by omega)) rowQ_scrub (fun r hq => ?_); obtain ⟨ys, hys, rfl⟩ := hq) <;> simp (maxSteps := 1000000) (dsimp := false) (implicitDefEqProofs := false) (disch := omega) only [wrap64, go_sem]) | refine awp_seqK fun K hK => ?_ | (refine awp_regionK 524339 rfl ?_; simp only [List.map_cons, List.map_nil]; simp (maxSteps := 1000000) (dsimp := false) (implicitDefEqProofs := false) (disch := omega) only [wrap64, go_sem]) | (refine awp_regionQK 524339 (by kernel_rfl) (by kernel_rfl) (by kernel_rfl) ?_; simp only [List.map_cons, List.map_nil]; simp (maxSteps := 1000000) (dsimp := false) (implicitDefEqProofs := false) (disch := omega) only [wrap64, go_sem]) | refine awp_block ?_ | (refine awp_skip ?_; simp only [go_sem]) | (refine awp_exit ?_; simp only [go_sem]) | (refine awp_ret ?_; try simp only [go_sem]) | (refine awp_condP rfl ?_; try simp only [go_sem]) | (refine BrP.mk (fun h => ?_) (fun h => ?_) <;> try simp (dsimp := false) (disch := omega) only [wrap64]) | (refine Br.mk (fun h => ?_) (fun h => ?_) <;> try simp (dsimp := false) (disch := omega) only [wrap64]) | refine Ob.mk (by first | omega | (intro _ _; rfl) | trivial | (intros; trivial) | assumption | (intro i hi; have h0 : i = 0 := (by omega); subst h0; first | rfl | trivial) | (intro i hi; have h0 : i = 0 ∨ i = 1 := (by omega); rcases h0 with rfl | rfl <;> rfl) | (intro i hi; have h0 : i = 0 ∨ i = 1 ∨ i = 2 := (by omega); rcases h0 with rfl | rfl | rfl <;> rfl)) ?_ | ((first | ((first | refine atF (f := 9) ?_ | refine atQ (f := 9) ?_); (first | refine cV (hfit := .cons (.refl _) (.cons (.refl _) .nil)) (hac := hsm.h) (hK := ?_) | refine cQV (hfit := .cons (.refl _) (.cons (.refl _) .nil)) (hac := hsm.h) (hK := ?_)))); simp (maxSteps := 1000000) (dsimp := false) (implicitDefEqProofs := false) (disch := omega) only [wrap64, go_sem]) | apply_assumption -exfalso -symm)
    all_goals (first | (show endQ _ _ _ _ _ _ _; (repeat (rename (∀ (A : Fr) (H : Hp), AWP _ _ _ _ A H → _) => hK; clear hK)); (repeat (rename (Fr → Hp → Prop) => K; clear K))) | (show Exists _; (repeat (rename (∀ (A : Fr) (H : Hp), AWP _ _ _ _ A H → _) => hK; clear hK)); (repeat (rename (Fr → Hp → Prop) => K; clear K))) | skip)
    · exact end_X2 rfl (by decide) rfl rfl (fits_I (xs := []) rfl trivial rfl rfl) (.refl _) ⟨[], Nat.zero_le _, by rw [show decide (p.length ≤ 7) = false from decide_eq_false (by omega)]; rfl⟩
    · exfalso; omega
    · exact end_X2 rfl (by decide) rfl rfl (.refl _) (.refl _) ⟨ys, hys, by rw [show decide (p.length ≤ 7) = true from decide_eq_true (by omega)]⟩
  · have hd : decide (sctP p q ∧ p.length ≤ 7) = false := decide_eq_false fun x => h x.1
    rw [decide_eq_false h] at hsm
    unfold sfQ
    rw [hd]
    have hsm := Hold.mk hsm
    clear h
    refine ac_of_awp (N := ⟨_, fun _ => false, fun _ _ => rfl, true⟩) Try.func8 rfl (by kernel_rfl) Try.ntmps8 (by simp) ?_
    simp only [argsFr, List.zipIdx_cons, List.zipIdx_nil, go_sem]
    repeat' (first | refine awp_seqK fun K hK => ?_ | (refine awp_regionK 524339 rfl ?_; simp only [List.map_cons, List.map_nil]; simp (maxSteps := 1000000) (dsimp := false) (implicitDefEqProofs := false) (disch := omega) only [wrap64, go_sem]) | (refine awp_regionQK 524339 (by kernel_rfl) (by kernel_rfl) (by kernel_rfl) ?_; simp only [List.map_cons, List.map_nil]; simp (maxSteps := 1000000) (dsimp := false) (implicitDefEqProofs := false) (disch := omega) only [wrap64, go_sem]) | refine awp_block ?_ | (refine awp_skip ?_; simp only [go_sem]) | (refine awp_exit ?_; simp only [go_sem]) | (refine awp_ret ?_; try simp only [go_sem]) | (refine awp_condP rfl ?_; try simp only [go_sem]) | (refine BrP.mk (fun h => ?_) (fun h => ?_) <;> try simp (dsimp := false) (disch := omega) only [wrap64]) | (refine Br.mk (fun h => ?_) (fun h => ?_) <;> try simp (dsimp := false) (disch := omega) only [wrap64]) | refine Ob.mk (by first | omega | (intro _ _; rfl) | trivial | (intros; trivial) | assumption | (intro i hi; have h0 : i = 0 := (by omega); subst h0; first | rfl | trivial) | (intro i hi; have h0 : i = 0 ∨ i = 1 := (by omega); rcases h0 with rfl | rfl <;> rfl) | (intro i hi; have h0 : i = 0 ∨ i = 1 ∨ i = 2 := (by omega); rcases h0 with rfl | rfl | rfl <;> rfl)) ?_ | ((first | ((first | refine atF (f := 9) ?_ | refine atQ (f := 9) ?_); (first | refine cV (hfit := .cons (.refl _) (.cons (.refl _) .nil)) (hac := hsm.h) (hK := ?_) | refine cQV (hfit := .cons (.refl _) (.cons (.refl _) .nil)) (hac := hsm.h) (hK := ?_)))); simp (maxSteps := 1000000) (dsimp := false) (implicitDefEqProofs := false) (disch := omega) only [wrap64, go_sem]) | apply_assumption -exfalso -symm)
    all_goals (first | (show endQ _ _ _ _ _ _ _; (repeat (rename (∀ (A : Fr) (H : Hp), AWP _ _ _ _ A H → _) => hK; clear hK)); (repeat (rename (Fr → Hp → Prop) => K; clear K))) | (show Exists _; (repeat (rename (∀ (A : Fr) (H : Hp), AWP _ _ _ _ A H → _) => hK; clear hK)); (repeat (rename (Fr → Hp → Prop) => K; clear K))) | skip)
    exact end_X2 rfl (by decide) rfl rfl (fits_I (xs := []) rfl trivial rfl rfl) (.refl _) ⟨[], Nat.zero_le _, rfl⟩
/-- What is drawn. -/
def pq21 (r : AV) : Prop := ∃ p q : List Int, (p.length ≤ 21 ∧ q.length ≤ 21) ∧ r = .tup 2 (vecF [ints p, ints q])
theorem cnjU_len (p q : List Int) : (cnjU p q).1.length ≤ 21 := by
  unfold cnjU
  split
  · rename_i h
    have h1 := ((isPerm_pm q).1 h.2.2).1
    rw [show (Go.Pm.cnj p q) = Go.Pm.comp (Go.Pm.comp (Go.Pm.invp q) p) q from rfl, Go.Pm.comp_length, Go.Pm.comp_length]
    simp [Go.Pm.invp]; omega
  · exact Nat.zero_le _
theorem drawFindConjugator_ok (xs : List Int) (hx : ∀ j, 0 ≤ xs.getD j 0 ∧ xs.getD j 0 ≤ 255) (hl : xs.length ≤ 4096) : AC Try.prog 5 [bts xs] Hp.emp (fun _ => false) (postX pq21) := by
  have mk := Hold.mk True.intro
  refine ac_of_awp (N := ⟨_, fun _ => false, fun _ _ => rfl, true⟩) Try.func5 rfl (by kernel_rfl) Try.ntmps5 (by simp) ?_
  simp only [argsFr, List.zipIdx_cons, List.zipIdx_nil, go_sem]
  repeat' (first | ((first | refine atF (f := 14) ?_ | refine atQ (f := 14) ?_); (refine callRoll (newSource_ok xs hx hl) rfl (fun d0 => ?_)) <;> simp (maxSteps := 1000000) (dsimp := false) (implicitDefEqProofs := false) (disch := omega) only [wrap64, go_sem]) | ((first | refine atF (f := 15) ?_ | refine atQ (f := 15) ?_); (refine callD (by rfl) (between_ok _ _ _ (by omega)) (by rintro _ ⟨v, _, rfl⟩ _; rfl) (fun r d1 hq => ?_); obtain ⟨n, hn, rfl⟩ := hq) <;> simp (maxSteps := 1000000) (dsimp := false) (implicitDefEqProofs := false) (disch := omega) only [wrap64, go_sem]) | ((first | refine atF (f := 18) ?_ | refine atQ (f := 18) ?_); (refine callD (by rfl) (oneIn_ok _ _ (by omega)) (by rintro _ ⟨v, _, rfl⟩ _; rfl) (fun r d4 hq => ?_); obtain ⟨v4, hv4, rfl⟩ := hq) <;> simp (maxSteps := 1000000) (dsimp := false) (implicitDefEqProofs := false) (disch := omega) only [wrap64, go_sem]) | ((first | refine atF (f := 16) ?_ | refine atQ (f := 16) ?_); (refine callD (by rfl) (drawAnyPerm_ok _ _ (by omega)) (by rintro _ ⟨v, _, rfl⟩ q; rfl) (fun r d2 hq => ?_); first | (clear mk; obtain ⟨p, ⟨hp, _⟩, rfl⟩ := hq) | obtain ⟨q, ⟨hq1, _⟩, rfl⟩ := hq) <;> simp (maxSteps := 1000000) (dsimp := false) (implicitDefEqProofs := false) (disch := omega) only [wrap64, go_sem]) | refine awp_seqK fun K hK => ?_ | (refine awp_regionK 2147484669 rfl ?_; simp only [List.map_cons, List.map_nil]; simp (maxSteps := 1000000) (dsimp := false) (implicitDefEqProofs := false) (disch := omega) only [wrap64, go_sem]) | (refine awp_regionQK 2147484669 (by kernel_rfl) (by kernel_rfl) (by kernel_rfl) ?_; simp only [List.map_cons, List.map_nil]; simp (maxSteps := 1000000) (dsimp := false) (implicitDefEqProofs := false) (disch := omega) only [wrap64, go_sem]) | refine awp_block ?_ | (refine awp_skip ?_; simp only [go_sem]) | (refine awp_exit ?_; simp only [go_sem]) | (refine awp_ret ?_; try simp only [go_sem]) | (refine awp_condP rfl ?_; try simp only [go_sem]) | (refine BrP.mk (fun h => ?_) (fun h => ?_) <;> try simp (dsimp := false) (disch := omega) only [wrap64]) | (refine Br.mk (fun h => ?_) (fun h => ?_) <;> try simp (dsimp := false) (disch := omega) only [wrap64]) | refine Ob.mk (by first | omega | (intro _ _; rfl) | trivial | (intros; trivial) | assumption | (intro i hi; have h0 : i = 0 := (by omega); subst h0; first | rfl | trivial) | (intro i hi; have h0 : i = 0 ∨ i = 1 := (by omega); rcases h0 with rfl | rfl <;> rfl) | (intro i hi; have h0 : i = 0 ∨ i = 1 ∨ i = 2 := (by omega); rcases h0 with rfl | rfl | rfl <;> rfl)) ?_ | ((first | ((first | refine atF (f := 17) ?_ | refine atQ (f := 17) ?_); (refine cFIB (hac := specConjugate_ok p q 40) (hK := ?_)))); simp (maxSteps := 1000000) (dsimp := false) (implicitDefEqProofs := false) (disch := omega) only [wrap64, go_sem]) | apply_assumption -exfalso -symm)
  all_goals (first | (show endQ _ _ _ _ _ _ _; (repeat (rename (∀ (A : Fr) (H : Hp), AWP _ _ _ _ A H → _) => hK; clear hK)); (repeat (rename (Fr → Hp → Prop) => K; clear K))) | (show Exists _; (repeat (rename (∀ (A : Fr) (H : Hp), AWP _ _ _ _ A H → _) => hK; clear hK)); (repeat (rename (Fr → Hp → Prop) => K; clear K))) | skip)
  all_goals first
    | exact end_X2 rfl (by decide) rfl rfl (.refl _) (.refl _) ⟨p, q, ⟨hp, hq1⟩, rfl⟩
    | exact end_X2 rfl (by decide) rfl rfl (.refl _) (.refl _) ⟨p, (cnjU p q).1, ⟨hp, cnjU_len p q⟩, rfl⟩
end Go.Proofs.Ytpffmolibjimgaa
end
