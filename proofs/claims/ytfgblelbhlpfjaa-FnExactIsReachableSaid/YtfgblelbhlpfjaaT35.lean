/- A new chain, and the chain of generators: the reference's. -/
import Derived.Test.YtfgblelbhlpfjaaT33
import Derived.Test.YtfgblelbhlpfjaaT34
namespace Go.Proofs.Ytfgblelbhlpfjaa
open Go.Av
set_option linter.unusedSimpArgs false
set_option linter.unusedVariables false
attribute [local irreducible] AWP CallG Ob Br BrP Go.Av.Sub endQ AOps OpV AC thenA blkA opsVC opVC withA withArgs opsQ opQ CallQ withA2 withArgs2
open Go.Pm (Pm comp invp idn img Ch fixB)

def kSk (n j k : Nat) : Nat → AV := vecF [.v (.int .i64 n), .own 1000002 0 1 k, .own 1000001 0 1 j]
theorem kSk0 (n j k : Nat) : kSk n j k 0 = .v (.int .i64 n) := rfl
theorem kSk1 (n j k : Nat) : kSk n j k 1 = .own 1000002 0 1 k := rfl
theorem kSk2 (n j k : Nat) : kSk n j k 2 = .own 1000001 0 1 j := rfl
theorem chG_allS (n : Nat) (C : Ch) : chG (kSk n n n) n n n C = chH (kS n) n C := rfl
section
variable {F : Nat → AV} {n j k : Nat} {C : Ch} {R : Hp}
theorem skS (n j k : Nat) : scF (fun x => x == 1000002) (kSk n j k) = vecF [.v (.int .i64 n), .dead, .own 1000001 0 1 j] := by
  funext i
  match i with
  | 0 => rfl
  | 1 => rfl
  | 2 => rfl
  | i + 3 => rfl
theorem chG_scrubS {h m p q : Nat} (hj : j ≤ 20) (hk : k ≤ 20) (hh : h < 1000000) : (chG (kSk m p q) n j k C).scrub (fun x => x == h) = chG (kSk m p q) n j k C := by
  have hb : ∀ x, 1000000 ≤ x → (x == h) = false := fun x hx => beq_eq_false_iff_ne.2 (by omega)
  have hs : ∀ d i, (sub d i == h) = false := fun d i => hb _ (by have := sub_ge d i; rw [FB_eq] at this; omega)
  have e0 : (fun i => (kSk m p q i).scrub (fun x => x == h)) = kSk m p q := by
    funext i
    match i with
    | 0 => rfl
    | 1 => simp only [kSk1, AV.scrub, hb 1000002 (by decide)]; rfl
    | 2 => simp only [kSk2, AV.scrub, hb 1000001 (by decide)]; rfl
    | i + 3 => rfl
  have e1 : (fun i => (gnF j C i).scrub (fun x => x == h)) = gnF j C := by
    funext i; unfold gnF; split
    · simp [AV.scrub, hs]
    · rfl
  have e2 : (fun i => (tnG k n i).scrub (fun x => x == h)) = tnG k n := by
    funext i; unfold tnG; split
    · simp [AV.scrub, hs]
    · rfl
  have e4 : ∀ i, (fun j => (cM ints [] (C.S i) j).scrub (fun x => x == h)) = cM ints [] (C.S i) := fun i => rfl
  funext x
  unfold Hp.scrub
  cases e : chG (kSk m p q) n j k C x with
  | none => rfl
  | some B =>
    simp only [Option.map_some, Option.some.injEq]
    rcases chG_names e with ⟨_, rfl⟩ | ⟨_, rfl⟩ | ⟨_, rfl⟩ | ⟨i, _, _, rfl⟩ | ⟨i, _, _, rfl⟩
    · simp only [Blk.scrub, e0]
    · simp only [Blk.scrub, e1]
    · simp only [Blk.scrub, e2]
    · simp only [Blk.scrub, e4]
    · simp only [Blk.scrub, tF_scrub]
theorem lay_startS {H : Hp} {f : Nat → AV} (h1 : H 8 = some (.cells 3 f)) (f0 : f 0 = .v (.int .i64 n)) (f1 : f 1 = .v (.slice none 0 0)) (f2 : f 2 = .v (.slice none 0 0)) :
    ∀ h B', chG (kSk n 0 0) n 0 0 (C0 n) h = some B' → (∃ g m f f', (if h = 1000000 then some 8 else none) = some g ∧ B' = .cells m f' ∧ H g = some (.cells m f) ∧ ∀ i, i < m → Lay (fun h => if h = 1000000 then some 8 else none) (f i) (f' i))
      ∨ ((if h = 1000000 then some 8 else none : Option Nat) = none ∧ ∃ f, B' = .cells 0 f) := by
  intro h B' hB
  rcases chG_names hB with ⟨rfl, rfl⟩ | ⟨rfl, rfl⟩ | ⟨rfl, rfl⟩ | ⟨i, hi, rfl, rfl⟩ | ⟨i, hi, rfl, rfl⟩
  · refine .inl ⟨8, 3, f, kSk n 0 0, rfl, rfl, h1, fun i hi => ?_⟩
    have h0 : i = 0 ∨ i = 1 ∨ i = 2 := by omega
    rcases h0 with rfl | rfl | rfl
    · rw [f0]; exact .plain trivial
    · rw [f1]; exact .nil rfl
    · rw [f2]; exact .nil rfl
  · exact .inr ⟨rfl, _, rfl⟩
  · exact .inr ⟨rfl, _, rfl⟩
  · omega
  · omega
def rhoS (k h : Nat) : Option Nat := if h = sub 1000002 k then some 15 else if h = sub 1000001 k then some 36 else some h
theorem rhoS_lit {k h : Nat} (hh : h < 2097152) : rhoS k h = some h := by
  have h1 := sub_ge 1000002 k
  have h2 := sub_ge 1000001 k
  rw [FB_eq] at h1 h2
  unfold rhoS
  rw [if_neg (by omega), if_neg (by omega)]
theorem rhoS_gs {k i : Nat} (hi : i < 20) (hk : k < 20) (h : i ≠ k) : rhoS k (sub 1000001 i) = some (sub 1000001 i) := by
  unfold rhoS
  rw [if_neg (beq_eq_false_iff_ne.1 (sub_ne_sub hi hk (.inl (by decide)))), if_neg (beq_eq_false_iff_ne.1 (sub_ne_sub hi hk (.inr h)))]
theorem rhoS_ts {k i : Nat} (hi : i < 20) (hk : k < 20) (h : i ≠ k) : rhoS k (sub 1000002 i) = some (sub 1000002 i) := by
  unfold rhoS
  rw [if_neg (beq_eq_false_iff_ne.1 (sub_ne_sub hi hk (.inr h))), if_neg (beq_eq_false_iff_ne.1 (sub_ne_sub hi hk (.inl (by decide))))]
theorem rhoS_k (k : Nat) : rhoS k (sub 1000002 k) = some 15 := if_pos rfl
theorem rhoS_g {k : Nat} (hk : k < 20) : rhoS k (sub 1000001 k) = some 36 := by
  unfold rhoS
  rw [if_neg (beq_eq_false_iff_ne.1 (sub_ne_sub hk hk (.inl (by decide)))), if_pos rfl]
theorem lay_stepS (hn : n ≤ 20) (hk : k < n) {H : Hp} {F0 F1 F2 F3 F4 : Nat → AV} (h0 : H 1000000 = some (.cells 3 F0)) (f0 : F0 0 = .v (.int .i64 n)) (f01 : F0 1 = .own 1000002 0 1 (k + 1)) (f02 : F0 2 = .own 1000001 0 1 (k + 1))
    (h1 : H 1000001 = some (.cells (k + 1) F1)) (f1 : ∀ i, i < k → F1 i = .own (sub 1000001 i) 0 1 0) (f1k : F1 k = .own 36 0 1 0)
    (h2 : H 1000002 = some (.cells (k + 1) F2)) (f2 : ∀ i, i < k → F2 i = .own (sub 1000002 i) 0 1 n) (f2k : F2 k = .own 15 0 1 n) (h3 : ∀ i, i < k → H (sub 1000001 i) = some (.cells 0 (cM ints [] []))) (h4 : ∀ i, i < k → H (sub 1000002 i) = some (.cells n (tF ((C0 n).T i))))
    (h5 : H 15 = some (.cells n F3)) (f3 : ∀ i, i < n → F3 i = tF ((C0 n).T k) i) (h6 : H 36 = some (.cells 0 F4)) :
    ∀ h B', chG (kSk n (k + 1) (k + 1)) n (k + 1) (k + 1) (C0 n) h = some B' → (∃ g m f f', rhoS k h = some g ∧ B' = .cells m f' ∧ H g = some (.cells m f) ∧ ∀ i, i < m → Lay (rhoS k) (f i) (f' i)) ∨ (rhoS k h = none ∧ ∃ f, B' = .cells 0 f) := by
  intro h B' hB
  rcases chG_names hB with ⟨rfl, rfl⟩ | ⟨rfl, rfl⟩ | ⟨rfl, rfl⟩ | ⟨i, hi, rfl, rfl⟩ | ⟨i, hi, rfl, rfl⟩
  · refine .inl ⟨_, 3, _, _, rhoS_lit (by decide), rfl, h0, fun i hi => ?_⟩
    have h0 : i = 0 ∨ i = 1 ∨ i = 2 := by omega
    rcases h0 with rfl | rfl | rfl
    · rw [f0]; exact .plain trivial
    · rw [f01]; exact .own (rhoS_lit (by decide))
    · rw [f02]; exact .own (rhoS_lit (by decide))
  · refine .inl ⟨_, k + 1, _, _, rhoS_lit (by decide), rfl, h1, fun i hi => ?_⟩
    rw [gnF_app _ hi]
    by_cases e : i = k
    · subst e; rw [f1k]; exact .own (rhoS_g (by omega))
    · rw [f1 i (by omega)]; exact .own (rhoS_gs (by omega) (by omega) e)
  · refine .inl ⟨_, k + 1, _, _, rhoS_lit (by decide), rfl, h2, fun i hi => ?_⟩
    rw [show tnG (k + 1) n i = .own (sub 1000002 i) 0 1 n from if_pos hi]
    by_cases e : i = k
    · subst e; rw [f2k]; exact .own (rhoS_k _)
    · rw [f2 i (by omega)]; exact .own (rhoS_ts (by omega) (by omega) e)
  · by_cases e : i = k
    · subst e
      exact .inl ⟨_, 0, _, _, rhoS_g (by omega), rfl, h6, fun i hi => by omega⟩
    · exact .inl ⟨_, _, _, _, rhoS_gs (by omega) (by omega) e, rfl, h3 i (by omega), fun i hi => .plain trivial⟩
  · by_cases e : i = k
    · subst e
      exact .inl ⟨_, _, _, _, rhoS_k _, rfl, h5, fun j hj => by rw [f3 j hj]; exact .plain (tF_plain _ _)⟩
    · exact .inl ⟨_, _, _, _, rhoS_ts (by omega) (by omega) e, rfl, h4 i (by omega), fun j hj => .plain (tF_plain _ _)⟩
theorem rhoS_inj {h g m : Nat} (hh : chG (kSk n (k + 1) (k + 1)) n (k + 1) (k + 1) (C0 n) h ≠ none) (hg : chG (kSk n (k + 1) (k + 1)) n (k + 1) (k + 1) (C0 n) g ≠ none) (e1 : rhoS k h = some m) (e2 : rhoS k g = some m) : h = g := by
  have low : ∀ x, chG (kSk n (k + 1) (k + 1)) n (k + 1) (k + 1) (C0 n) x ≠ none → x ≠ 15 ∧ x ≠ 36 := fun x hx => ⟨fun e => by subst e; exact hx (chG_low (by decide)), fun e => by subst e; exact hx (chG_low (by decide))⟩
  have l1 := low h hh
  have l2 := low g hg
  unfold rhoS at e1 e2
  split at e1
  · split at e2
    · omega
    · split at e2 <;> simp only [Option.some.injEq] at e1 e2 <;> omega
  · split at e1
    · split at e2
      · simp only [Option.some.injEq] at e1 e2; omega
      · split at e2 <;> simp only [Option.some.injEq] at e1 e2 <;> omega
    · split at e2
      · simp only [Option.some.injEq] at e1 e2; omega
      · split at e2 <;> simp only [Option.some.injEq] at e1 e2 <;> omega
theorem sb1 (d i : Nat) : (sub d i == 1000001) = false := beq_eq_false_iff_ne.2 (sub_lits d i).2.1
end

theorem emptyChain_ok (n : Nat) (hn : 1 ≤ n ∧ n ≤ 20) : AC Try.prog 210 [.v (.int .i64 (n))] Hp.emp (fun _ => false) (postN (kS n) n (· = C0 n)) := by
  refine ac_of_awp (N := ⟨_, fun _ => false, fun _ _ => rfl⟩) Try.func210 rfl (by kernel_rfl) Try.ntmps210 (by simp) ?_
  simp only [argsFr, List.zipIdx_cons, List.zipIdx_nil, go_sem, ints, intss, pz, iv, sv, bv, Nat.reduceAdd]
  repeat' (first | refine awp_seqK fun K hK => ?_ | (refine awp_regionK 2109 rfl ?_; simp only [List.map_cons, List.map_nil]; simp (maxSteps := 1000000) (dsimp := false) (implicitDefEqProofs := false) (disch := omega) only [wrap64, go_sem, ints, intss, pz, iv, bv, sv, Nat.reducePow, Nat.reduceDiv, Nat.reduceMod, ↓reduceIte, Nat.reduceEqDiff, Nat.reduceAdd, reduceCtorEq, Nat.reduceBEq, Nat.reduceLT]) | (refine awp_regionQK 2109 (by kernel_rfl) (by kernel_rfl) (by kernel_rfl) ?_; simp only [List.map_cons, List.map_nil]; simp (maxSteps := 1000000) (dsimp := false) (implicitDefEqProofs := false) (disch := omega) only [wrap64, go_sem, ints, intss, pz, iv, bv, sv, Nat.reducePow, Nat.reduceDiv, Nat.reduceMod, ↓reduceIte, Nat.reduceEqDiff, Nat.reduceAdd, reduceCtorEq, Nat.reduceBEq, Nat.reduceLT]) | refine awp_block ?_ | (refine awp_skip ?_; simp only [go_sem, ints, intss, pz, iv, bv, sv, Nat.reducePow, Nat.reduceDiv, Nat.reduceMod, ↓reduceIte, Nat.reduceEqDiff, Nat.reduceAdd, reduceCtorEq, Nat.reduceBEq, Nat.reduceLT]) | (refine awp_exit ?_; simp only [go_sem, ints, intss, pz, iv, bv, sv, Nat.reducePow, Nat.reduceDiv, Nat.reduceMod, ↓reduceIte, Nat.reduceEqDiff, Nat.reduceAdd, reduceCtorEq, Nat.reduceBEq, Nat.reduceLT]) | (refine awp_ret ?_; try simp only [go_sem, ints, intss, pz, iv, bv, sv, Nat.reducePow, Nat.reduceDiv, Nat.reduceMod, ↓reduceIte, Nat.reduceEqDiff, Nat.reduceAdd, reduceCtorEq, Nat.reduceBEq, Nat.reduceLT]) | (refine awp_condP rfl ?_; try simp only [go_sem, ints, intss, pz, iv, bv, sv, Nat.reducePow, Nat.reduceDiv, Nat.reduceMod, ↓reduceIte, Nat.reduceEqDiff, Nat.reduceAdd, reduceCtorEq, Nat.reduceBEq, Nat.reduceLT]) | (refine BrP.mk (fun h => ?_) (fun h => ?_) <;> try simp (dsimp := false) (disch := omega) only [wrap64]) | (refine Br.mk (fun h => ?_) (fun h => ?_) <;> try simp (dsimp := false) (disch := omega) only [wrap64]) | refine Ob.mk (by first | omega | (intro _ _; rfl) | trivial | (intros; trivial) | assumption | (intro i hi; have h0 : i = 0 := (by omega); subst h0; first | rfl | trivial) | (intro i hi; have h0 : i = 0 ∨ i = 1 := (by omega); rcases h0 with rfl | rfl <;> rfl) | (intro i hi; have h0 : i = 0 ∨ i = 1 ∨ i = 2 := (by omega); rcases h0 with rfl | rfl | rfl <;> rfl)) ?_ | apply_assumption -exfalso -symm)
  all_goals (first | (show endQ _ _ _ _ _ _ _; (repeat (rename (∀ (A : Fr) (H : Hp), AWP _ _ _ _ A H → _) => hK; clear hK)); (repeat (rename (Fr → Hp → Prop) => K; clear K))) | (show Exists _; (repeat (rename (∀ (A : Fr) (H : Hp), AWP _ _ _ _ A H → _) => hK; clear hK)); (repeat (rename (Fr → Hp → Prop) => K; clear K))) | skip)
  refine awp_loop (ι := Nat) (fun k => [(4, .v (.int .i64 (k))), (3, .ref 1000000 0), (0, .v (.int .i64 (n)))]) (fun k => chG (kSk n k k) n k k (C0 n)) (fun k => k ≤ n) (fun k => n - k) 0 (Nat.zero_le _) (Sub.lay (fun h => if h = 1000000 then some 8 else none) rfl (lay_cons ⟨_, rfl, .plain trivial⟩ (lay_cons ⟨_, rfl, .ref rfl⟩ (lay_cons ⟨_, rfl, .plain trivial⟩ lay_nil))) (lay_startS rfl rfl rfl rfl) ?_) ?_
  · intro h g m _ _ e1 e2
    split at e1
    · split at e2
      · omega
      · simp at e2
    · simp at e1
  intro k hk
  have hn2 := hn.2
  repeat' (first | refine awp_seqK fun K hK => ?_ | (refine awp_regionK 2109 rfl ?_; simp only [List.map_cons, List.map_nil]; simp (maxSteps := 1000000) (dsimp := false) (implicitDefEqProofs := false) (disch := omega) only [wrap64, go_sem, ints, intss, pz, iv, bv, sv, Nat.reducePow, Nat.reduceDiv, Nat.reduceMod, ↓reduceIte, Nat.reduceEqDiff, Nat.reduceAdd, reduceCtorEq, Nat.reduceBEq, Nat.reduceLT, chG_c, chG_t, chG_g, chG_scrubS, hG_c, kSk0, kSk1, kSk2, skS]) | (refine awp_regionQK 2109 (by kernel_rfl) (by kernel_rfl) (by kernel_rfl) ?_; simp only [List.map_cons, List.map_nil]; simp (maxSteps := 1000000) (dsimp := false) (implicitDefEqProofs := false) (disch := omega) only [wrap64, go_sem, ints, intss, pz, iv, bv, sv, Nat.reducePow, Nat.reduceDiv, Nat.reduceMod, ↓reduceIte, Nat.reduceEqDiff, Nat.reduceAdd, reduceCtorEq, Nat.reduceBEq, Nat.reduceLT, chG_c, chG_t, chG_g, chG_scrubS, hG_c, kSk0, kSk1, kSk2, skS]) | refine awp_block ?_ | (refine awp_skip ?_; simp only [go_sem, ints, intss, pz, iv, bv, sv, Nat.reducePow, Nat.reduceDiv, Nat.reduceMod, ↓reduceIte, Nat.reduceEqDiff, Nat.reduceAdd, reduceCtorEq, Nat.reduceBEq, Nat.reduceLT, chG_c, chG_t, chG_g, chG_scrubS, hG_c, kSk0, kSk1, kSk2, skS]) | (refine awp_exit ?_; simp only [go_sem, ints, intss, pz, iv, bv, sv, Nat.reducePow, Nat.reduceDiv, Nat.reduceMod, ↓reduceIte, Nat.reduceEqDiff, Nat.reduceAdd, reduceCtorEq, Nat.reduceBEq, Nat.reduceLT, chG_c, chG_t, chG_g, chG_scrubS, hG_c, kSk0, kSk1, kSk2, skS]) | (refine awp_ret ?_; try simp only [go_sem, ints, intss, pz, iv, bv, sv, Nat.reducePow, Nat.reduceDiv, Nat.reduceMod, ↓reduceIte, Nat.reduceEqDiff, Nat.reduceAdd, reduceCtorEq, Nat.reduceBEq, Nat.reduceLT, chG_c, chG_t, chG_g, chG_scrubS, hG_c, kSk0, kSk1, kSk2, skS]) | (refine awp_condP rfl ?_; try simp only [go_sem, ints, intss, pz, iv, bv, sv, Nat.reducePow, Nat.reduceDiv, Nat.reduceMod, ↓reduceIte, Nat.reduceEqDiff, Nat.reduceAdd, reduceCtorEq, Nat.reduceBEq, Nat.reduceLT, chG_c, chG_t, chG_g, chG_scrubS, hG_c, kSk0, kSk1, kSk2, skS]) | (refine BrP.mk (fun h => ?_) (fun h => ?_) <;> try simp (dsimp := false) (disch := omega) only [wrap64]) | (refine Br.mk (fun h => ?_) (fun h => ?_) <;> try simp (dsimp := false) (disch := omega) only [wrap64]) | refine Ob.mk (by first | omega | (intro _ _; rfl) | trivial | (intros; trivial) | assumption | (intro i hi; have h0 : i = 0 := (by omega); subst h0; first | rfl | trivial) | (intro i hi; have h0 : i = 0 ∨ i = 1 := (by omega); rcases h0 with rfl | rfl <;> rfl) | (intro i hi; have h0 : i = 0 ∨ i = 1 ∨ i = 2 := (by omega); rcases h0 with rfl | rfl | rfl <;> rfl)) ?_ | ((first | ((first | refine atF (f := 120) ?_ | refine atQ (f := 120) ?_); (first | (refine cFI (hac := specIdentity_ok n (by omega) 9) (hK := ?_)) | (refine cQI (hac := specIdentity_ok n (by omega) 9) (hK := ?_))))); simp (maxSteps := 1000000) (dsimp := false) (implicitDefEqProofs := false) (disch := omega) only [wrap64, go_sem, ints, intss, pz, iv, bv, sv, Nat.reducePow, Nat.reduceDiv, Nat.reduceMod, ↓reduceIte, Nat.reduceEqDiff, Nat.reduceAdd, reduceCtorEq, Nat.reduceBEq, Nat.reduceLT, chG_c, chG_t, chG_g, chG_scrubS, hG_c, kSk0, kSk1, kSk2, skS]) | apply_assumption -exfalso -symm)
  all_goals (first | (show endQ _ _ _ _ _ _ _; (repeat (rename (∀ (A : Fr) (H : Hp), AWP _ _ _ _ A H → _) => hK; clear hK)); (repeat (rename (Fr → Hp → Prop) => K; clear K))) | (show Exists _; (repeat (rename (∀ (A : Fr) (H : Hp), AWP _ _ _ _ A H → _) => hK; clear hK)); (repeat (rename (Fr → Hp → Prop) => K; clear K))) | skip)
  · have hs1 : ∀ x, (Hp.scrub (fun x => x == 1000001) (Hp.scrub (fun x => x == 37) (Hp.scrub (fun x => x == 36) (Hp.scrub (fun x => x == 1000002) (chG (kSk n k k) n k k (C0 n)))))) x = ((((chG (kSk n k k) n k k (C0 n) x).map (Blk.scrub (fun x => x == 1000002))).map (Blk.scrub (fun x => x == 36))).map (Blk.scrub (fun x => x == 37))).map (Blk.scrub (fun x => x == 1000001)) := fun _ => rfl
    have hne : ∀ d i, sub d i ≠ 15 ∧ sub d i ≠ 27 ∧ sub d i ≠ 36 ∧ sub d i ≠ 37 := fun d i => by have := sub_ge d i; rw [FB_eq] at this; omega
    have hlb : ∀ d i x, x < 1000000 → (sub d i == x) = false := fun d i x hx => sub_lowb hx
    refine ⟨k + 1, by omega, by omega, Sub.lay (rhoS k) rfl (lay_cons ⟨_, rfl, .plain trivial⟩ (lay_cons ⟨_, rfl, .ref (rhoS_lit (by decide))⟩ (lay_cons ⟨_, rfl, .plain trivial⟩ lay_nil))) (lay_stepS hn2 (by omega) rfl rfl rfl rfl rfl (fun i hi => ?_) ?_ rfl (fun i hi => ?_) ?_ (fun i hi => ?_) (fun i hi => ?_) rfl (fun i hi => ?_) rfl) (fun h g m => rhoS_inj)⟩
    · have e : gnF k (C0 n) i = .own (sub 1000001 i) 0 1 0 := gnF_app _ hi
      unfold apF
      rw [if_pos hi]
      simp only [scF, e, AV.scrub, sb1, sb2, hlb _ _ 36 (by decide), hlb _ _ 37 (by decide), Bool.false_eq_true, if_false]
    · unfold apF setF
      rw [if_neg (by omega), if_pos (by omega)]
    · have e : tnG k n i = .own (sub 1000002 i) 0 1 n := if_pos hi
      unfold apF
      rw [if_pos hi]
      simp only [scF, e, AV.scrub, sb1, sb2, hlb _ _ 36 (by decide), hlb _ _ 37 (by decide), Bool.false_eq_true, if_false]
    · unfold apF setF
      rw [if_neg (by omega), if_pos (by omega)]
    · unfold Hp.upd
      rw [if_neg (sub_lits _ _).1, if_neg (sub_lits _ _).2.1, if_neg (hne _ _).2.2.2, if_neg (hne _ _).2.2.1, if_neg (sub_lits _ _).1, if_neg (sub_lits _ _).2.2, if_neg (hne _ _).2.1, if_neg (hne _ _).1, hs1, chG_gs hi (by omega)]; rfl
    · unfold Hp.upd
      rw [if_neg (sub_lits _ _).1, if_neg (sub_lits _ _).2.1, if_neg (hne _ _).2.2.2, if_neg (hne _ _).2.2.1, if_neg (sub_lits _ _).1, if_neg (sub_lits _ _).2.2, if_neg (hne _ _).2.1, if_neg (hne _ _).1, hs1, chG_ts hi (by omega)]
      simp only [Option.map_some, Blk.scrub, tF_scrub]
    · unfold setF tF C0
      by_cases e : i = k
      · subst e; simp only [if_pos]; rw [idn_marks]; rfl
      · simp only [if_neg e, zF1]
  · have e : k = n := by omega
    subst e
    exact end_post rfl rfl (Hp.le_refl _) ⟨rfl, _, rfl, chG_allS _ _⟩

theorem specCopyInts_ok (xs : List Int) (hx : xs.length ≤ 1048576) (d : Nat) : AC Try.prog 212 [ints xs] Hp.emp (fun _ => false) (retI d xs) := by
  have e : apF 0 (cM iv 0 (List.replicate 0 (0 : Int))) (cM iv 0 xs) = cM iv 0 xs := by funext j; simp [apF]
  refine ac_of_awp (N := ⟨_, fun _ => false, fun _ _ => rfl⟩) Try.func212 rfl (by kernel_rfl) Try.ntmps212 (by simp) ?_
  simp only [argsFr, List.zipIdx_cons, List.zipIdx_nil, go_sem, ints, intss, pz, iv, sv, bv, Nat.reduceAdd]
  repeat' (first | refine awp_seqK fun K hK => ?_ | (refine awp_regionK 5 rfl ?_; simp only [List.map_cons, List.map_nil]; simp (maxSteps := 1000000) (dsimp := false) (implicitDefEqProofs := false) (disch := omega) only [wrap64, go_sem, ints, intss, pz, iv, bv, sv, Nat.reducePow, Nat.reduceDiv, Nat.reduceMod, ↓reduceIte, Nat.reduceEqDiff, Nat.reduceAdd, reduceCtorEq, Nat.reduceBEq, Nat.reduceLT]) | (refine awp_regionQK 5 (by kernel_rfl) (by kernel_rfl) (by kernel_rfl) ?_; simp only [List.map_cons, List.map_nil]; simp (maxSteps := 1000000) (dsimp := false) (implicitDefEqProofs := false) (disch := omega) only [wrap64, go_sem, ints, intss, pz, iv, bv, sv, Nat.reducePow, Nat.reduceDiv, Nat.reduceMod, ↓reduceIte, Nat.reduceEqDiff, Nat.reduceAdd, reduceCtorEq, Nat.reduceBEq, Nat.reduceLT]) | refine awp_block ?_ | (refine awp_skip ?_; simp only [go_sem, ints, intss, pz, iv, bv, sv, Nat.reducePow, Nat.reduceDiv, Nat.reduceMod, ↓reduceIte, Nat.reduceEqDiff, Nat.reduceAdd, reduceCtorEq, Nat.reduceBEq, Nat.reduceLT]) | (refine awp_exit ?_; simp only [go_sem, ints, intss, pz, iv, bv, sv, Nat.reducePow, Nat.reduceDiv, Nat.reduceMod, ↓reduceIte, Nat.reduceEqDiff, Nat.reduceAdd, reduceCtorEq, Nat.reduceBEq, Nat.reduceLT]) | (refine awp_ret ?_; try simp only [go_sem, ints, intss, pz, iv, bv, sv, Nat.reducePow, Nat.reduceDiv, Nat.reduceMod, ↓reduceIte, Nat.reduceEqDiff, Nat.reduceAdd, reduceCtorEq, Nat.reduceBEq, Nat.reduceLT]) | (refine awp_condP rfl ?_; try simp only [go_sem, ints, intss, pz, iv, bv, sv, Nat.reducePow, Nat.reduceDiv, Nat.reduceMod, ↓reduceIte, Nat.reduceEqDiff, Nat.reduceAdd, reduceCtorEq, Nat.reduceBEq, Nat.reduceLT]) | (refine BrP.mk (fun h => ?_) (fun h => ?_) <;> try simp (dsimp := false) (disch := omega) only [wrap64]) | (refine Br.mk (fun h => ?_) (fun h => ?_) <;> try simp (dsimp := false) (disch := omega) only [wrap64]) | refine Ob.mk (by first | omega | (intro _ _; rfl) | trivial | (intros; trivial) | assumption | (intro i hi; have h0 : i = 0 := (by omega); subst h0; first | rfl | trivial) | (intro i hi; have h0 : i = 0 ∨ i = 1 := (by omega); rcases h0 with rfl | rfl <;> rfl) | (intro i hi; have h0 : i = 0 ∨ i = 1 ∨ i = 2 := (by omega); rcases h0 with rfl | rfl | rfl <;> rfl)) ?_ | apply_assumption -exfalso -symm)
  all_goals (first | (show endQ _ _ _ _ _ _ _; (repeat (rename (∀ (A : Fr) (H : Hp), AWP _ _ _ _ A H → _) => hK; clear hK)); (repeat (rename (Fr → Hp → Prop) => K; clear K))) | (show Exists _; (repeat (rename (∀ (A : Fr) (H : Hp), AWP _ _ _ _ A H → _) => hK; clear hK)); (repeat (rename (Fr → Hp → Prop) => K; clear K))) | skip)
  rw [e]
  exact end_retI' rfl rfl rfl rfl rfl rfl
theorem buildChain_ok (n : Nat) (gs : List (List Int)) (hn : 1 ≤ n ∧ n ≤ 20) (hg : gensP n gs) (hgl : gs.length ≤ 8) : AC Try.prog 188 [.v (.int .i64 (n)), intss gs] Hp.emp (fun _ => false) (postN (kS n) n (Of n gs)) := by
  have hn2 := hn.2
  have hg1 : ∀ i, i < gs.length → Pm n (gs.getD i []) := hg.2.2
  have hgl1 : ∀ i, i < gs.length → (gs.getD i []).length = n := fun i hi => (hg1 i hi).1
  have hgm : ∀ m, ∀ g ∈ gs.take m, Pm n g := fun m g hm => by
    obtain ⟨j, hj, rfl⟩ := List.mem_iff_getElem.1 (List.mem_of_mem_take hm)
    have := hg1 j hj
    rwa [List.getD_eq_getElem?_getD, List.getElem?_eq_getElem hj] at this
  refine ac_of_awp (N := ⟨_, fun _ => false, fun _ _ => rfl⟩) Try.func188 rfl (by kernel_rfl) Try.ntmps188 (by simp) ?_
  simp only [argsFr, List.zipIdx_cons, List.zipIdx_nil, go_sem, ints, intss, pz, iv, sv, bv, Nat.reduceAdd]
  repeat' (first | refine awp_seqK fun K hK => ?_ | (refine awp_regionK 4211 rfl ?_; simp only [List.map_cons, List.map_nil]; simp (maxSteps := 1000000) (dsimp := false) (implicitDefEqProofs := false) (disch := omega) only [wrap64, go_sem, ints, intss, pz, iv, bv, sv, Nat.reducePow, Nat.reduceDiv, Nat.reduceMod, ↓reduceIte, Nat.reduceEqDiff, Nat.reduceAdd, reduceCtorEq, Nat.reduceBEq, Nat.reduceLT]) | (refine awp_regionQK 4211 (by kernel_rfl) (by kernel_rfl) (by kernel_rfl) ?_; simp only [List.map_cons, List.map_nil]; simp (maxSteps := 1000000) (dsimp := false) (implicitDefEqProofs := false) (disch := omega) only [wrap64, go_sem, ints, intss, pz, iv, bv, sv, Nat.reducePow, Nat.reduceDiv, Nat.reduceMod, ↓reduceIte, Nat.reduceEqDiff, Nat.reduceAdd, reduceCtorEq, Nat.reduceBEq, Nat.reduceLT]) | refine awp_block ?_ | (refine awp_skip ?_; simp only [go_sem, ints, intss, pz, iv, bv, sv, Nat.reducePow, Nat.reduceDiv, Nat.reduceMod, ↓reduceIte, Nat.reduceEqDiff, Nat.reduceAdd, reduceCtorEq, Nat.reduceBEq, Nat.reduceLT]) | (refine awp_exit ?_; simp only [go_sem, ints, intss, pz, iv, bv, sv, Nat.reducePow, Nat.reduceDiv, Nat.reduceMod, ↓reduceIte, Nat.reduceEqDiff, Nat.reduceAdd, reduceCtorEq, Nat.reduceBEq, Nat.reduceLT]) | (refine awp_ret ?_; try simp only [go_sem, ints, intss, pz, iv, bv, sv, Nat.reducePow, Nat.reduceDiv, Nat.reduceMod, ↓reduceIte, Nat.reduceEqDiff, Nat.reduceAdd, reduceCtorEq, Nat.reduceBEq, Nat.reduceLT]) | (refine awp_condP rfl ?_; try simp only [go_sem, ints, intss, pz, iv, bv, sv, Nat.reducePow, Nat.reduceDiv, Nat.reduceMod, ↓reduceIte, Nat.reduceEqDiff, Nat.reduceAdd, reduceCtorEq, Nat.reduceBEq, Nat.reduceLT]) | (refine BrP.mk (fun h => ?_) (fun h => ?_) <;> try simp (dsimp := false) (disch := omega) only [wrap64]) | (refine Br.mk (fun h => ?_) (fun h => ?_) <;> try simp (dsimp := false) (disch := omega) only [wrap64]) | refine Ob.mk (by first | omega | (intro _ _; rfl) | trivial | (intros; trivial) | assumption | (intro i hi; have h0 : i = 0 := (by omega); subst h0; first | rfl | trivial) | (intro i hi; have h0 : i = 0 ∨ i = 1 := (by omega); rcases h0 with rfl | rfl <;> rfl) | (intro i hi; have h0 : i = 0 ∨ i = 1 ∨ i = 2 := (by omega); rcases h0 with rfl | rfl | rfl <;> rfl)) ?_ | ((first | ((first | refine atF (f := 210) ?_ | refine atQ (f := 210) ?_); refine callNew (emptyChain_ok n hn) (.inr rfl) hn2 rfl rfl (fun C hC => ?_))); simp (maxSteps := 1000000) (dsimp := false) (implicitDefEqProofs := false) (disch := omega) only [wrap64, go_sem, ints, intss, pz, iv, bv, sv, Nat.reducePow, Nat.reduceDiv, Nat.reduceMod, ↓reduceIte, Nat.reduceEqDiff, Nat.reduceAdd, reduceCtorEq, Nat.reduceBEq, Nat.reduceLT]) | apply_assumption -exfalso -symm)
  all_goals (first | (show endQ _ _ _ _ _ _ _; (repeat (rename (∀ (A : Fr) (H : Hp), AWP _ _ _ _ A H → _) => hK; clear hK)); (repeat (rename (Fr → Hp → Prop) => K; clear K))) | (show Exists _; (repeat (rename (∀ (A : Fr) (H : Hp), AWP _ _ _ _ A H → _) => hK; clear hK)); (repeat (rename (Fr → Hp → Prop) => K; clear K))) | skip)
  subst hC
  refine awp_loop (ι := Ch × Nat) (fun x => [(6, .v (.int .i64 (x.2))), (5, .ref 1000000 0), (1, .list false 1 (gs).length (cM ints [] (gs)))]) (fun x => (chH (kS n) n x.1).add Hp.emp) (fun x => x.2 ≤ gs.length ∧ x.1.WF n ∧ x.1.Full n 0 ∧ x.1.Ind n ∧ ∀ g, Go.Pm.Gen n (gs.take x.2) g ↔ Go.Pm.Gen n (x.1.S 0) g) (fun x => gs.length - x.2) (C0 n, 0)
    ⟨Nat.zero_le _, C0_wf n, C0_full n, C0_ind n, fun g => Iff.rfl⟩ (Sub.toL (by simp only [go_sem, ints, intss, pz, iv, bv, sv, Nat.reducePow, Nat.reduceDiv, Nat.reduceMod, ↓reduceIte, Nat.reduceEqDiff, Nat.reduceAdd, reduceCtorEq, Nat.reduceBEq, Nat.reduceLT] <;> first | trivial | (simp only [Option.some.injEq, AV.v.injEq, AV.own.injEq, AV.list.injEq, Value.int.injEq, Value.bool.injEq, true_and, and_true]; first | omega | (simp; done)) | (simp; done) | (simp; omega)) (Hp.le_refl _)) ?_
  rintro ⟨C, i⟩ ⟨hi, hw, hF, hI, hG⟩
  dsimp only at hi hw hF hI hG ⊢
  have hgi := hgl1 i
  have hI' : Hold (C.Ind n) := ⟨hI⟩
  clear hI
  have hac : i < gs.length → AC Try.prog 211 [.ref 1000000 0, .v (.int .i64 (0)), ints (gs.getD i [])] (chH (kS n) n C) (pnC 0) (postC (kS n) n (Ch.Add n 0 C (gs.getD i []))) := fun h =>
    specGen_ok n hn2 n 0 C (gs.getD i []) (by omega) hw hF hI'.h (hg1 i h) (fun j hj => by omega)
  repeat' (first | refine awp_seqK fun K hK => ?_ | (refine awp_regionK 4211 rfl ?_; simp only [List.map_cons, List.map_nil]; simp (maxSteps := 1000000) (dsimp := false) (implicitDefEqProofs := false) (disch := omega) only [wrap64, go_sem, ints, intss, pz, iv, bv, sv, Nat.reducePow, Nat.reduceDiv, Nat.reduceMod, ↓reduceIte, Nat.reduceEqDiff, Nat.reduceAdd, reduceCtorEq, Nat.reduceBEq, Nat.reduceLT, pX_low]) | (refine awp_regionQK 4211 (by kernel_rfl) (by kernel_rfl) (by kernel_rfl) ?_; simp only [List.map_cons, List.map_nil]; simp (maxSteps := 1000000) (dsimp := false) (implicitDefEqProofs := false) (disch := omega) only [wrap64, go_sem, ints, intss, pz, iv, bv, sv, Nat.reducePow, Nat.reduceDiv, Nat.reduceMod, ↓reduceIte, Nat.reduceEqDiff, Nat.reduceAdd, reduceCtorEq, Nat.reduceBEq, Nat.reduceLT, pX_low]) | refine awp_block ?_ | (refine awp_skip ?_; simp only [go_sem, ints, intss, pz, iv, bv, sv, Nat.reducePow, Nat.reduceDiv, Nat.reduceMod, ↓reduceIte, Nat.reduceEqDiff, Nat.reduceAdd, reduceCtorEq, Nat.reduceBEq, Nat.reduceLT, pX_low]) | (refine awp_exit ?_; simp only [go_sem, ints, intss, pz, iv, bv, sv, Nat.reducePow, Nat.reduceDiv, Nat.reduceMod, ↓reduceIte, Nat.reduceEqDiff, Nat.reduceAdd, reduceCtorEq, Nat.reduceBEq, Nat.reduceLT, pX_low]) | (refine awp_ret ?_; try simp only [go_sem, ints, intss, pz, iv, bv, sv, Nat.reducePow, Nat.reduceDiv, Nat.reduceMod, ↓reduceIte, Nat.reduceEqDiff, Nat.reduceAdd, reduceCtorEq, Nat.reduceBEq, Nat.reduceLT, pX_low]) | (refine awp_condP rfl ?_; try simp only [go_sem, ints, intss, pz, iv, bv, sv, Nat.reducePow, Nat.reduceDiv, Nat.reduceMod, ↓reduceIte, Nat.reduceEqDiff, Nat.reduceAdd, reduceCtorEq, Nat.reduceBEq, Nat.reduceLT, pX_low]) | (refine BrP.mk (fun h => ?_) (fun h => ?_) <;> try simp (dsimp := false) (disch := omega) only [wrap64]) | (refine Br.mk (fun h => ?_) (fun h => ?_) <;> try simp (dsimp := false) (disch := omega) only [wrap64]) | refine Ob.mk (by first | omega | (intro _ _; rfl) | trivial | (intros; trivial) | assumption | (intro i hi; have h0 : i = 0 := (by omega); subst h0; first | rfl | trivial) | (intro i hi; have h0 : i = 0 ∨ i = 1 := (by omega); rcases h0 with rfl | rfl <;> rfl) | (intro i hi; have h0 : i = 0 ∨ i = 1 ∨ i = 2 := (by omega); rcases h0 with rfl | rfl | rfl <;> rfl)) ?_ | ((first | ((first | refine atF (f := 212) ?_ | refine atQ (f := 212) ?_); (first | (refine cFI (hac := specCopyInts_ok (gs.getD i []) (by omega) 9) (hK := ?_)) | (refine cQI (hac := specCopyInts_ok (gs.getD i []) (by omega) 9) (hK := ?_)))) | ((first | refine atF (f := 211) ?_ | refine atQ (f := 211) ?_); refine callCh (R := Hp.emp) (hac (by omega)) (.inr rfl) hn2 rfl rfl (fun h hh => by cases hh) (fun C5 hA5 => ?_))); simp (maxSteps := 1000000) (dsimp := false) (implicitDefEqProofs := false) (disch := omega) only [wrap64, go_sem, ints, intss, pz, iv, bv, sv, Nat.reducePow, Nat.reduceDiv, Nat.reduceMod, ↓reduceIte, Nat.reduceEqDiff, Nat.reduceAdd, reduceCtorEq, Nat.reduceBEq, Nat.reduceLT, pX_low]) | apply_assumption -exfalso -symm)
  all_goals (first | (show endQ _ _ _ _ _ _ _; (repeat (rename (∀ (A : Fr) (H : Hp), AWP _ _ _ _ A H → _) => hK; clear hK)); (repeat (rename (Fr → Hp → Prop) => K; clear K))) | (show Exists _; (repeat (rename (∀ (A : Fr) (H : Hp), AWP _ _ _ _ A H → _) => hK; clear hK)); (repeat (rename (Fr → Hp → Prop) => K; clear K))) | skip)
  · refine ⟨(C5, i + 1), ⟨by dsimp only; omega, hA5.wf, hA5.full, hA5.ind hI'.h, ?_⟩, by dsimp only; omega, Sub.toL (by simp only [go_sem, ints, intss, pz, iv, bv, sv, Nat.reducePow, Nat.reduceDiv, Nat.reduceMod, ↓reduceIte, Nat.reduceEqDiff, Nat.reduceAdd, reduceCtorEq, Nat.reduceBEq, Nat.reduceLT] <;> first | trivial | (simp only [Option.some.injEq, AV.v.injEq, AV.own.injEq, AV.list.injEq, Value.int.injEq, Value.bool.injEq, true_and, and_true]; first | omega | (simp; done)) | (simp; done) | (simp; omega)) (Hp.le_refl _)⟩
    dsimp only
    have hlt : i < gs.length := by omega
    have e := hA5.gen (hg1 i hlt) (hgm i) hG
    rw [List.take_succ_eq_append_getElem hlt]
    rw [List.getD_eq_getElem?_getD, List.getElem?_eq_getElem hlt] at e
    exact e
  · have e : i = gs.length := by omega
    subst e
    rw [List.take_length] at hG
    exact end_post rfl rfl (le_add _ _) ⟨rfl, C, ⟨hw, hF, hG⟩, rfl⟩
end Go.Proofs.Ytfgblelbhlpfjaa
