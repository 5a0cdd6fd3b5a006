import Derived.Test.YtdllbnchcjgcdaaH7
import Derived.Test.YtdllbnchcjgcdaaH5
import Derived.Test.YtdllbnchcjgcdaaH3
import Derived.Test.YtdllbnchcjgcdaaH2
/- The reference's searches of patterns. -/
section
namespace Go.Proofs.Ytdllbnchcjgcdaa
open Go.Av
set_option linter.unusedSimpArgs false
set_option linter.unusedVariables false
attribute [local irreducible] AWP CallG Ob Br BrP Go.Av.Sub endQ AOps OpV AC thenA blkA opsVC opVC withA withArgs opsQ opQ CallQ withA2 withArgs2
open Go.Pm (Pm comp invp idn img Gen Bf srch sorts srtN Srt slot sidx insAt)
def okTr (p : Pz) (l : List Int) : Prop := isPz p ∧ isTr p.n l
instance (p : Pz) (l : List Int) : Decidable (okTr p l) := by unfold okTr; infer_instance
/-- The whole search of patterns. -/
noncomputable def QS (p : Pz) (l : List Int) : Option Bf := if okTr p l then srch (lsP p) l else none
noncomputable def QA (p : Pz) (l : List Int) : Bf := match QS p l with | some B => B | none => if okTr p l then Go.Pm.cutB (lsP p) l else ⟨[], [], [], [], []⟩
theorem QS_yes {p : Pz} {l : List Int} (h : okTr p l) : QS p l = srch (lsP p) l := if_pos h
theorem QS_no {p : Pz} {l : List Int} (h : ¬ okTr p l) : QS p l = none := if_neg h
theorem QS_tr {p : Pz} {l : List Int} {B : Bf} (h : QS p l = some B) : okTr p l := by
  by_cases e : okTr p l
  · exact e
  · rw [QS_no e] at h; cases h
theorem okTr_in {p : Pz} {l : List Int} (h : okTr p l) : l.length ≤ 20 ∧ 0 < l.length ∧ ∀ j, j < l.length → 0 ≤ l.getD j 0 ∧ l.getD j 0 < p.n.toNat := by
  have h1 := isTr_len h.2
  have hn := h.1.n
  refine ⟨by omega, h.2.1, fun j hj => ?_⟩
  have := (h.2.2 j hj).1; omega
theorem QA_some {p : Pz} {l : List Int} {B : Bf} (h : QS p l = some B) : QA p l = B := by unfold QA; rw [h]
theorem QA_whole {p : Pz} {l : List Int} (h : (QS p l).isSome = true) : okTr p l ∧ Bf.Whole p.n.toNat (lsP p) l (QA p l) ∧ (QA p l).st.length ≤ 3000 := by
  obtain ⟨B, hB⟩ := Option.isSome_iff_exists.1 h
  have hz := QS_tr hB
  rw [QA_some hB]
  rw [QS_yes hz] at hB
  obtain ⟨K, h1, h2, rfl⟩ := Go.Pm.srch_fin hB
  exact ⟨hz, h1.whole (lsP_pm hz.1) (okTr_in hz).2.2, by have := h1.1; omega⟩
theorem QA_srt {p : Pz} {l : List Int} (h : (QS p l).isSome = true) : Srt l.length (QA p l).st (sorts (QA p l).st) := by
  obtain ⟨_, hw, _⟩ := QA_whole h
  exact Go.Pm.sorts_srt (m := l.length) _ hw.nd (fun s hs => hw.len s hs)
theorem QA_basic (p : Pz) (l : List Int) : (QA p l).st.length ≤ 3000 ∧ (QA p l).dp.length = (QA p l).st.length := by
  cases hX : QS p l with
  | some B =>
    have h : (QS p l).isSome = true := by rw [hX]; rfl
    obtain ⟨_, hw, hx⟩ := QA_whole h
    rw [QA_some hX] at hw hx ⊢
    exact ⟨hx, hw.ld⟩
  | none =>
    unfold QA
    rw [hX]
    by_cases h : okTr p l
    · simp only [if_pos h]
      exact Go.Pm.cutB_basic (lsP_pm h.1) (okTr_in h).2.2
    · simp only [if_neg h]
      exact ⟨by simp, rfl⟩
theorem QAt_scrub (p : Pz) (l : List Int) (q : Nat → Bool) (x : Bool) : (AV.tup 2 (vecF [sFw (QA p l).st (QA p l).dp (sorts (QA p l).st) x, .v (.bool (x))])).scrub q = .tup 2 (vecF [sFw (QA p l).st (QA p l).dp (sorts (QA p l).st) x, .v (.bool (x))]) := by
  simp only [scrub_tup, scF_vecF, List.map_cons, List.map_nil, sFw_scrub, scrub_v]
theorem searchPatterns_ok (p : Pz) (l : List Int) : AC Try.prog 92 [pz p, ints l] Hp.emp (fun _ => false) (retV (.tup 2 (vecF [sFw (QA p l).st (QA p l).dp (sorts (QA p l).st) (QS p l).isSome, .v (.bool ((QS p l).isSome))]))) := by
  have hac : isPz p ∧ isTr p.n l → AC Try.prog 144 [pz p, ints l] Hp.emp (fun _ => false) (retV (sFw (QA p l).st (QA p l).dp (sorts (QA p l).st) (QS p l).isSome)) := fun h => by
    have hn := okTr_in h
    have := searchFrom_ok p l h.1 hn.1 hn.2.2
    unfold searchR at this
    unfold QA
    rw [QS_yes h]
    cases e : srch (lsP p) l with
    | some B => rw [e] at this; exact this
    | none => rw [e] at this; simp only [if_pos (show okTr p l from h)]; exact this
  have hno : ¬ (isPz p ∧ isTr p.n l) → QA p l = ⟨[], [], [], [], []⟩ ∧ (QS p l).isSome = false := fun h => by
    unfold QA; rw [QS_no h]; simp only [if_neg (show ¬ okTr p l from h)]; exact ⟨trivial, rfl⟩
  unfold sFw at hac ⊢
  refine ac_of_awp (N := ⟨_, fun _ => false, fun _ _ => rfl⟩) Try.func92 rfl (by kernel_rfl) Try.ntmps92 (by simp) ?_
  simp only [argsFr, List.zipIdx_cons, List.zipIdx_nil, go_sem]
  repeat' (first | (refine ob4 rfl rfl rfl rfl ?_) | (refine awp_regionPK (id := 4) 1143 3 3 (by kernel_rfl) (by kernel_rfl) (by kernel_rfl) ?_; simp only [List.map_cons, List.map_nil, opsP, List.take_succ_cons, List.take_zero, List.drop_succ_cons, List.drop_zero]; simp (maxSteps := 1000000) (dsimp := false) (implicitDefEqProofs := false) (disch := omega) only [wrap64, go_sem]) | refine awp_seqK fun K hK => ?_ | (refine awp_regionK 1143 rfl ?_; simp only [List.map_cons, List.map_nil]; simp (maxSteps := 1000000) (dsimp := false) (implicitDefEqProofs := false) (disch := omega) only [wrap64, go_sem]) | (refine awp_regionQK 1143 (by kernel_rfl) (by kernel_rfl) (by kernel_rfl) ?_; simp only [List.map_cons, List.map_nil]; simp (maxSteps := 1000000) (dsimp := false) (implicitDefEqProofs := false) (disch := omega) only [wrap64, go_sem]) | refine awp_block ?_ | (refine awp_skip ?_; simp only [go_sem]) | (refine awp_exit ?_; simp only [go_sem]) | (refine awp_ret ?_; try simp only [go_sem]) | (refine awp_condP rfl ?_; try simp only [go_sem]) | (refine BrP.mk (fun h => ?_) (fun h => ?_) <;> try simp (dsimp := false) (disch := omega) only [wrap64]) | (refine Br.mk (fun h => ?_) (fun h => ?_) <;> try simp (dsimp := false) (disch := omega) only [wrap64]) | refine Ob.mk (by first | omega | (intro _ _; rfl) | trivial | (intros; trivial) | assumption | (intro i hi; have h0 : i = 0 := (by omega); subst h0; first | rfl | trivial) | (intro i hi; have h0 : i = 0 ∨ i = 1 := (by omega); rcases h0 with rfl | rfl <;> rfl) | (intro i hi; have h0 : i = 0 ∨ i = 1 ∨ i = 2 := (by omega); rcases h0 with rfl | rfl | rfl <;> rfl)) ?_ | ((first | ((first | refine atF (f := 123) ?_ | refine atQ (f := 123) ?_); (first | (refine cV (hac := specIsTrackedSet_ok p l) (hK := ?_)) | (refine cQV (hac := specIsTrackedSet_ok p l) (hK := ?_)))) | (refine cR (hac := hac (by assumption)) (hK := ?_) (hs := sFw_scrub _ _ _ _ _)) | (refine cQR (hac := hac (by assumption)) (hK := ?_) (hp := plainW _ _ _ _))); simp (maxSteps := 1000000) (dsimp := false) (implicitDefEqProofs := false) (disch := omega) only [wrap64, go_sem]) | apply_assumption -exfalso -symm)
  all_goals (first | (show endQ _ _ _ _ _ _ _; (repeat (rename (∀ (A : Fr) (H : Hp), AWP _ _ _ _ A H → _) => hK; clear hK)); (repeat (rename (Fr → Hp → Prop) => K; clear K))) | (show Exists _; (repeat (rename (∀ (A : Fr) (H : Hp), AWP _ _ _ _ A H → _) => hK; clear hK)); (repeat (rename (Fr → Hp → Prop) => K; clear K))) | skip)
  · exact end_retCP2 rfl (by decide) rfl rfl (by simp only [go_sem]; rfl) rfl (by decide) (plainW _ _ _ _) (fits4 (.refl _) (.refl _) (.refl _) (.refl _)) ⟨rfl, rfl⟩
  · obtain ⟨e1, e2⟩ := hno (by assumption)
    rw [e1, e2]
    exact end_retCP2 rfl (by decide) rfl rfl (by simp only [go_sem]; rfl) rfl (by decide) (plainW _ _ _ _) (fits4 .nil .nil .nil (.refl _)) ⟨rfl, rfl⟩
noncomputable def pcP (p : Pz) (l : List Int) : Int := if (QS p l).isSome = true then (QA p l).st.length else -1
theorem specPatternCount_ok (p : Pz) (l : List Int) : AC Try.prog 37 [pz p, ints l] Hp.emp (fun _ => false) (retV (.v (.int .i64 (pcP p l)))) := by
  have hac := searchPatterns_ok p l
  have hsc := QAt_scrub p l (fun _ => true) (QS p l).isSome
  unfold sFw at hac hsc
  refine ac_of_awp (N := ⟨_, fun _ => false, fun _ _ => rfl⟩) Try.func37 rfl (by kernel_rfl) Try.ntmps37 (by simp) ?_
  simp only [argsFr, List.zipIdx_cons, List.zipIdx_nil, go_sem]
  repeat' (first | (refine ob4 rfl rfl rfl rfl ?_) | refine awp_seqK fun K hK => ?_ | (refine awp_regionK 16503 rfl ?_; simp only [List.map_cons, List.map_nil]; simp (maxSteps := 1000000) (dsimp := false) (implicitDefEqProofs := false) (disch := omega) only [wrap64, go_sem]) | (refine awp_regionQK 16503 (by kernel_rfl) (by kernel_rfl) (by kernel_rfl) ?_; simp only [List.map_cons, List.map_nil]; simp (maxSteps := 1000000) (dsimp := false) (implicitDefEqProofs := false) (disch := omega) only [wrap64, go_sem]) | refine awp_block ?_ | (refine awp_skip ?_; simp only [go_sem]) | (refine awp_exit ?_; simp only [go_sem]) | (refine awp_ret ?_; try simp only [go_sem]) | (refine awp_condP rfl ?_; try simp only [go_sem]) | (refine BrP.mk (fun h => ?_) (fun h => ?_) <;> try simp (dsimp := false) (disch := omega) only [wrap64]) | (refine Br.mk (fun h => ?_) (fun h => ?_) <;> try simp (dsimp := false) (disch := omega) only [wrap64]) | refine Ob.mk (by first | omega | (intro _ _; rfl) | trivial | (intros; trivial) | assumption | (intro i hi; have h0 : i = 0 := (by omega); subst h0; first | rfl | trivial) | (intro i hi; have h0 : i = 0 ∨ i = 1 := (by omega); rcases h0 with rfl | rfl <;> rfl) | (intro i hi; have h0 : i = 0 ∨ i = 1 ∨ i = 2 := (by omega); rcases h0 with rfl | rfl | rfl <;> rfl)) ?_ | ((first | (refine cR (hac := hac) (hK := ?_) (hs := hsc))); simp (maxSteps := 1000000) (dsimp := false) (implicitDefEqProofs := false) (disch := omega) only [wrap64, go_sem]) | apply_assumption -exfalso -symm)
  all_goals (first | (show endQ _ _ _ _ _ _ _; (repeat (rename (∀ (A : Fr) (H : Hp), AWP _ _ _ _ A H → _) => hK; clear hK)); (repeat (rename (Fr → Hp → Prop) => K; clear K))) | (show Exists _; (repeat (rename (∀ (A : Fr) (H : Hp), AWP _ _ _ _ A H → _) => hK; clear hK)); (repeat (rename (Fr → Hp → Prop) => K; clear K))) | skip)
  · exact end_retN rfl rfl (if_pos (by assumption)).symm
  · exact end_retN rfl rfl (if_neg (by simp [*])).symm
noncomputable def pdP (p : Pz) (l q : List Int) : Int := if (QS p l).isSome = true ∧ isPat p l q then depD (QA p l) q else -1
theorem isPat_tr {p : Pz} {l q : List Int} (h : isPat p l q) : okTr p l ∧ q.length = l.length := ⟨h.1, by have := h.2.1; omega⟩
theorem specPatternDistance_ok (p : Pz) (l q : List Int) (hq : q.length ≤ 1048576) : AC Try.prog 46 [pz p, ints l, ints q] Hp.emp (fun _ => false) (retV (.v (.int .i64 (pdP p l q)))) := by
  have hac := searchPatterns_ok p l
  have hsc := QAt_scrub p l (fun _ => true) (QS p l).isSome
  have hdo : (QS p l).isSome = true → isPat p l q → AC Try.prog 101 [sFw (QA p l).st (QA p l).dp (sorts (QA p l).st) (QS p l).isSome, ints q] Hp.emp (fun _ => false) (retV (.v (.int .i64 (depD (QA p l) q)))) := fun h k => by
    obtain ⟨h1, hw, h2⟩ := QA_whole h
    exact depthOf_ok l.length (QA p l) q _ (QA_srt h) hw.nd (isPat_tr k).2 (okTr_in h1).1 h2 hw.ld
  unfold sFw at hac hdo hsc
  refine ac_of_awp (N := ⟨_, fun _ => false, fun _ _ => rfl⟩) Try.func46 rfl (by kernel_rfl) Try.ntmps46 (by simp) ?_
  simp only [argsFr, List.zipIdx_cons, List.zipIdx_nil, go_sem]
  repeat' (first | (refine ob4 rfl rfl rfl rfl ?_) | refine awp_seqK fun K hK => ?_ | (refine awp_regionK 8389071 rfl ?_; simp only [List.map_cons, List.map_nil]; simp (maxSteps := 1000000) (dsimp := false) (implicitDefEqProofs := false) (disch := omega) only [wrap64, go_sem]) | (refine awp_regionQK 8389071 (by kernel_rfl) (by kernel_rfl) (by kernel_rfl) ?_; simp only [List.map_cons, List.map_nil]; simp (maxSteps := 1000000) (dsimp := false) (implicitDefEqProofs := false) (disch := omega) only [wrap64, go_sem]) | refine awp_block ?_ | (refine awp_skip ?_; simp only [go_sem]) | (refine awp_exit ?_; simp only [go_sem]) | (refine awp_ret ?_; try simp only [go_sem]) | (refine awp_condP rfl ?_; try simp only [go_sem]) | (refine BrP.mk (fun h => ?_) (fun h => ?_) <;> try simp (dsimp := false) (disch := omega) only [wrap64]) | (refine Br.mk (fun h => ?_) (fun h => ?_) <;> try simp (dsimp := false) (disch := omega) only [wrap64]) | refine Ob.mk (by first | omega | (intro _ _; rfl) | trivial | (intros; trivial) | assumption | (intro i hi; have h0 : i = 0 := (by omega); subst h0; first | rfl | trivial) | (intro i hi; have h0 : i = 0 ∨ i = 1 := (by omega); rcases h0 with rfl | rfl <;> rfl) | (intro i hi; have h0 : i = 0 ∨ i = 1 ∨ i = 2 := (by omega); rcases h0 with rfl | rfl | rfl <;> rfl)) ?_ | ((first | (refine cR (hac := hac) (hK := ?_) (hs := hsc)) | ((first | refine atF (f := 75) ?_ | refine atQ (f := 75) ?_); (first | (refine cV (hac := specIsPattern_ok p l q hq) (hK := ?_)) | (refine cQV (hac := specIsPattern_ok p l q hq) (hK := ?_)))) | (refine cV (hac := hdo (by assumption) (by assumption)) (hK := ?_)) | (refine cQV (hac := hdo (by assumption) (by assumption)) (hK := ?_))); simp (maxSteps := 1000000) (dsimp := false) (implicitDefEqProofs := false) (disch := omega) only [wrap64, go_sem]) | apply_assumption -exfalso -symm)
  all_goals (first | (show endQ _ _ _ _ _ _ _; (repeat (rename (∀ (A : Fr) (H : Hp), AWP _ _ _ _ A H → _) => hK; clear hK)); (repeat (rename (Fr → Hp → Prop) => K; clear K))) | (show Exists _; (repeat (rename (∀ (A : Fr) (H : Hp), AWP _ _ _ _ A H → _) => hK; clear hK)); (repeat (rename (Fr → Hp → Prop) => K; clear K))) | skip)
  · exact end_retN rfl rfl (if_pos ⟨by assumption, by assumption⟩).symm
  · exact end_retN rfl rfl (if_neg (fun k => absurd k.2 (by assumption))).symm
  · exact end_retN rfl rfl (if_neg (fun k => by have := k.1; simp_all)).symm
noncomputable def repS (p : Pz) (l : List Int) : List (List Int) := if (QS p l).isSome = true then (QA p l).st else []
noncomputable def repD (p : Pz) (l : List Int) : List Int := if (QS p l).isSome = true then (QA p l).dp else []
theorem specReachablePatterns_ok (p : Pz) (l : List Int) : AC Try.prog 39 [pz p, ints l] Hp.emp (fun _ => false) (retV (.tup 3 (vecF [intss (repS p l), ints (repD p l), .v (.bool ((QS p l).isSome))]))) := by
  have hac := searchPatterns_ok p l
  have hsc := QAt_scrub p l (fun _ => true) (QS p l).isSome
  have hy1 : (QS p l).isSome = true → repS p l = (QA p l).st ∧ repD p l = (QA p l).dp := fun h => ⟨if_pos h, if_pos h⟩
  have hn1 : ¬ (QS p l).isSome = true → repS p l = [] ∧ repD p l = [] := fun h => ⟨if_neg h, if_neg h⟩
  have hl : (QS p l).isSome = true → (QA p l).st.length ≤ 3000 ∧ (QA p l).dp.length ≤ 3000 ∧ ∀ j, j < (QA p l).st.length → ((QA p l).st.getD j []).length ≤ 20 := fun h => by
    obtain ⟨hz, hw, hx⟩ := QA_whole h
    exact ⟨hx, by have := hw.ld; omega, fun j hj => by rw [hw.len _ (Go.Pm.mem_getD hj)]; exact (okTr_in hz).1⟩
  unfold sFw at hac hsc
  refine ac_of_awp (N := ⟨_, fun _ => false, fun _ _ => rfl⟩) Try.func39 rfl (by kernel_rfl) Try.ntmps39 (by simp) ?_
  simp only [argsFr, List.zipIdx_cons, List.zipIdx_nil, go_sem]
  repeat' (first | (refine ob4 rfl rfl rfl rfl ?_) | refine awp_seqK fun K hK => ?_ | (refine awp_regionK 66039 rfl ?_; simp only [List.map_cons, List.map_nil]; simp (maxSteps := 1000000) (dsimp := false) (implicitDefEqProofs := false) (disch := omega) only [wrap64, go_sem]) | (refine awp_regionQK 66039 (by kernel_rfl) (by kernel_rfl) (by kernel_rfl) ?_; simp only [List.map_cons, List.map_nil]; simp (maxSteps := 1000000) (dsimp := false) (implicitDefEqProofs := false) (disch := omega) only [wrap64, go_sem]) | refine awp_block ?_ | (refine awp_skip ?_; simp only [go_sem]) | (refine awp_exit ?_; simp only [go_sem]) | (refine awp_ret ?_; try simp only [go_sem]) | (refine awp_condP rfl ?_; try simp only [go_sem]) | (refine BrP.mk (fun h => ?_) (fun h => ?_) <;> try simp (dsimp := false) (disch := omega) only [wrap64]) | (refine Br.mk (fun h => ?_) (fun h => ?_) <;> try simp (dsimp := false) (disch := omega) only [wrap64]) | refine Ob.mk (by first | omega | (intro _ _; rfl) | trivial | (intros; trivial) | assumption | (intro i hi; have h0 : i = 0 := (by omega); subst h0; first | rfl | trivial) | (intro i hi; have h0 : i = 0 ∨ i = 1 := (by omega); rcases h0 with rfl | rfl <;> rfl) | (intro i hi; have h0 : i = 0 ∨ i = 1 ∨ i = 2 := (by omega); rcases h0 with rfl | rfl | rfl <;> rfl)) ?_ | ((first | (refine cR (hac := hac) (hK := ?_) (hs := hsc)) | ((first | refine atF (f := 94) ?_ | refine atQ (f := 94) ?_); (first | (refine cR (hac := copyLists_ok (QA p l).st (by have := hl (by assumption); omega) (fun j hj => by have := (hl (by assumption)).2.2 j hj; omega)) (hK := ?_)) | (refine cQR (hac := copyLists_ok (QA p l).st (by have := hl (by assumption); omega) (fun j hj => by have := (hl (by assumption)).2.2 j hj; omega)) (hK := ?_)))) | ((first | refine atF (f := 95) ?_ | refine atQ (f := 95) ?_); (first | (refine cFI (hac := specCopyInts_ok (QA p l).dp (by have := hl (by assumption); omega) 9) (hK := ?_)) | (refine cQI (hac := specCopyInts_ok (QA p l).dp (by have := hl (by assumption); omega) 9) (hK := ?_))))); simp (maxSteps := 1000000) (dsimp := false) (implicitDefEqProofs := false) (disch := omega) only [wrap64, go_sem]) | apply_assumption -exfalso -symm)
  all_goals (first | (show endQ _ _ _ _ _ _ _; (repeat (rename (∀ (A : Fr) (H : Hp), AWP _ _ _ _ A H → _) => hK; clear hK)); (repeat (rename (Fr → Hp → Prop) => K; clear K))) | (show Exists _; (repeat (rename (∀ (A : Fr) (H : Hp), AWP _ _ _ _ A H → _) => hK; clear hK)); (repeat (rename (Fr → Hp → Prop) => K; clear K))) | skip)
  · obtain ⟨e1, e2⟩ := hy1 (by assumption)
    rw [e1, e2, show (QS p l).isSome = true by assumption]
    exact end_retF3 rfl (by decide) (by decide) (by decide) rfl rfl rfl (.refl _) (.refl _) (.refl _)
  · obtain ⟨e1, e2⟩ := hn1 (by simp [*])
    rw [e1, e2, show (QS p l).isSome = false by assumption]
    exact end_retF3 rfl (by decide) (by decide) (by decide) rfl rfl rfl (fits_II' rfl trivial rfl (fun i hi => by omega)) (fits_I rfl trivial rfl rfl) (.refl _)
end Go.Proofs.Ytdllbnchcjgcdaa
end
/- The program's patterns. -/
section
namespace Go.Proofs.Ytdllbnchcjgcdaa
open Go.Av
set_option linter.unusedSimpArgs false
set_option linter.unusedVariables false
attribute [local irreducible] AWP CallG Ob Br BrP Go.Av.Sub endQ AOps OpV AC thenA blkA opsVC opVC withA withArgs opsQ opQ CallQ withA2 withArgs2
open Go.Pm (Pm comp invp idn img Gen Bf srch sorts srtN Srt slot sidx insAt)
theorem cloneI_ok (xs : List Int) (hx : xs.length ≤ 1048576) (h0 : 0 < xs.length) (d : Nat) : AC Try.prog 146 [ints xs] Hp.emp (fun _ => false) (retI d xs) := by
  refine ac_of_awp (N := ⟨_, fun _ => false, fun _ _ => rfl⟩) Try.func146 rfl (by kernel_rfl) Try.ntmps146 (by simp) ?_
  simp only [argsFr, List.zipIdx_cons, List.zipIdx_nil, go_sem]
  have hd : ((false || decide (0 < xs.length)) = true) = True := by simp [h0]
  repeat' (first | refine awp_seqK fun K hK => ?_ | (refine awp_regionK 21 rfl ?_; simp only [List.map_cons, List.map_nil]; simp (maxSteps := 1000000) (dsimp := false) (implicitDefEqProofs := false) (disch := omega) only [wrap64, go_sem, hd]) | (refine awp_regionQK 21 (by kernel_rfl) (by kernel_rfl) (by kernel_rfl) ?_; simp only [List.map_cons, List.map_nil]; simp (maxSteps := 1000000) (dsimp := false) (implicitDefEqProofs := false) (disch := omega) only [wrap64, go_sem, hd]) | refine awp_block ?_ | (refine awp_skip ?_; simp only [go_sem, hd]) | (refine awp_exit ?_; simp only [go_sem, hd]) | (refine awp_ret ?_; try simp only [go_sem, hd]) | (refine awp_condP rfl ?_; try simp only [go_sem, hd]) | (refine BrP.mk (fun h => ?_) (fun h => ?_) <;> try simp (dsimp := false) (disch := omega) only [wrap64]) | (refine Br.mk (fun h => ?_) (fun h => ?_) <;> try simp (dsimp := false) (disch := omega) only [wrap64]) | refine Ob.mk (by first | omega | (intro _ _; rfl) | trivial | (intros; trivial) | assumption | (intro i hi; have h0 : i = 0 := (by omega); subst h0; first | rfl | trivial) | (intro i hi; have h0 : i = 0 ∨ i = 1 := (by omega); rcases h0 with rfl | rfl <;> rfl) | (intro i hi; have h0 : i = 0 ∨ i = 1 ∨ i = 2 := (by omega); rcases h0 with rfl | rfl | rfl <;> rfl)) ?_ | apply_assumption -exfalso -symm)
  all_goals (first | (show endQ _ _ _ _ _ _ _; (repeat (rename (∀ (A : Fr) (H : Hp), AWP _ _ _ _ A H → _) => hK; clear hK)); (repeat (rename (Fr → Hp → Prop) => K; clear K))) | (show Exists _; (repeat (rename (∀ (A : Fr) (H : Hp), AWP _ _ _ _ A H → _) => hK; clear hK)); (repeat (rename (Fr → Hp → Prop) => K; clear K))) | skip)
  · have e : apF 0 (cM iv 0 (List.replicate 0 0)) (cM iv 0 xs) = cM iv 0 xs := by
      funext i; simp [apF]
    exact end_retI' rfl rfl (by show some (Blk.cells _ _) = _; rw [e]) rfl rfl rfl
/-- The keys of the rows that were met. -/
def kvb (xs : List (List Int)) : List (ByteArray × Bool) := xs.map fun s => (keyB s, true)
theorem kvb_snoc (xs : List (List Int)) (y : List Int) : kvb xs ++ [(keyB y, true)] = kvb (xs ++ [y]) := by simp [kvb]
theorem lk_kvb {y : List Int} (hy : isB y) : ∀ (xs : List (List Int)), (∀ s ∈ xs, isB s) → lkO (keyB y) (kvb xs) = if y ∈ xs then some true else none
  | [], _ => by simp [kvb, lkO]
  | s :: r, h => by
    have ih := lk_kvb hy r (fun x hx => h x (List.mem_cons_of_mem _ hx))
    unfold kvb at ih ⊢
    simp only [List.map_cons, lkO, ih]
    by_cases e : s = y
    · subst e
      rw [ba_beq.2 rfl]; simp
    · have e2 : (keyB y == keyB s) = false := by
        rw [Bool.eq_false_iff]
        exact fun k => e (keyB_inj (h s List.mem_cons_self) hy (ba_beq.1 k).symm)
      rw [e2]
      simp [Ne.symm e]
theorem lk_yes {y : List Int} {xs : List (List Int)} (hy : isB y) (h : ∀ s ∈ xs, isB s) : (lkO (keyB y) (kvb xs)).getD false = decide (y ∈ xs) := by
  rw [lk_kvb hy xs h]
  split <;> simp [*]
theorem lk_is {y : List Int} {xs : List (List Int)} (hy : isB y) (h : ∀ s ∈ xs, isB s) : (lkO (keyB y) (kvb xs)).isSome = decide (y ∈ xs) := by
  rw [lk_kvb hy xs h]
  split <;> simp [*]
/-- The moves of the letters. -/
def mvP (p : Pz) : List (List Int) := (lsP p).map (·.2)
theorem mvP_length (p : Pz) : (mvP p).length = 2 * p.m.length := by unfold mvP; rw [List.length_map, lsP_length]
theorem mvP_get (p : Pz) (i : Nat) (h : i < 2 * p.m.length) : (mvP p).getD i [] = letP p.m ((lets p.m.length).getD i 0) := by
  have hl := lets_length p.m.length
  unfold mvP lsP
  simp [List.getD_eq_getElem?_getD, List.getElem?_eq_getElem (show i < (lets p.m.length).length by omega)]
/-- What lies in memory while the patterns are searched. -/
def hQ (p : Pz) (X : Bf) : Hp := (PR 20 X.st X.st.length X.st.length).add ((((Hp.emp.upd 2 (.cells 3 (vecF [.v (.int .i64 (p.n)), .v (.string (p.s)), .list false 1 (p.m).length (cM ints [] (p.m))]))).upd 21 (.cells X.dp.length (cM iv 0 X.dp))).upd 22 (.mp (mS bv (kvb X.st)))).upd 30 (.cells (mvP p).length (cM ints [] (mvP p))))
/-- .. beside the rows that were met. -/
def rQ (p : Pz) (X : Bf) : Hp := (((Hp.emp.upd 2 (.cells 3 (vecF [.v (.int .i64 (p.n)), .v (.string (p.s)), .list false 1 (p.m).length (cM ints [] (p.m))]))).upd 21 (.cells X.dp.length (cM iv 0 X.dp))).upd 22 (.mp (mS bv (kvb X.st)))).upd 30 (.cells (mvP p).length (cM ints [] (mvP p)))
theorem rQ_low {p : Pz} {X : Bf} {H : Hp} {e : Nat} (h2 : H 2 = some (.cells 3 (vecF [.v (.int .i64 (p.n)), .v (.string (p.s)), .list false 1 (p.m).length (cM ints [] (p.m))]))) (h21 : H 21 = some (.cells X.dp.length (cM iv 0 X.dp))) (h22 : H 22 = some (.mp (mS bv (kvb X.st)))) (h30 : H 30 = some (.cells (mvP p).length (cM ints [] (mvP p)))) (he : 31 ≤ e ∨ e = 19) : ∀ g B, rQ p X g = some B → H g = some B ∧ g ≠ e ∧ g ≠ 20 ∧ g < 2097152 ∧ B.low := by
  unfold rQ
  refine low_upd ⟨h30, by omega, by omega, by omega, fun i => trivial⟩ (low_upd ⟨h22, by omega, by omega, by omega, fun x hx => ?_⟩ (low_upd ⟨h21, by omega, by omega, by omega, fun i => trivial⟩ (low_upd ⟨h2, by omega, by omega, by omega, fun i => low_vecF (fun a ha => ?_) i⟩ low_emp)))
  · obtain ⟨y, hy, rfl⟩ := List.mem_map.1 hx
    trivial
  · simp only [List.mem_cons, List.not_mem_nil, or_false] at ha
    rcases ha with rfl | rfl | rfl <;> trivial
theorem le_free {H' H : Hp} {g : Nat} {b : Blk} (h : H' g = none) (k : Hp.le H' H) : Hp.le H' (H.upd g b) := fun x B hB => by
  unfold Hp.upd
  by_cases e : x = g
  · subst e; rw [h] at hB; cases hB
  · rw [if_neg e]; exact k x B hB
theorem mvP_ls (p : Pz) {i : Nat} (h : i < (lsP p).length) : (mvP p).getD i [] = ((lsP p).getD i (0, [])).2 := by
  unfold mvP
  simp [List.getD_eq_getElem?_getD, List.getElem?_eq_getElem h]
theorem sc_mix {d k b : Nat} {xss : List (List Int)} (hb : b < 2097152) : scF (fun x => x == b) (mixF d xss k) = mixF d xss k := by
  funext i
  refine mixF_plain_scrub (fun j hj => ?_) i
  have := sub_ge d j
  rw [FB_eq] at this
  exact beq_eq_false_iff_ne.2 (by omega)
/-- What comes of searching the patterns. -/
def postP (p : Pz) (l : List Int) (r : AV) (H : Hp) : Prop := ((QS p l).isSome = true ∧ r = .tup 3 (vecF [.own 20 0 1 (QA p l).st.length, .own 21 0 1 (QA p l).dp.length, .v (.bool (true))]) ∧ H = (RR 20 (QA p l).st).add (Hp.emp.upd 21 (.cells (QA p l).dp.length (cM iv 0 (QA p l).dp)))) ∨ ((QS p l).isSome = false ∧ r = .tup 3 (vecF [.v (.slice none 0 0), .v (.slice none 0 0), .v (.bool (false))]) ∧ H = Hp.emp)
theorem le_addF {F H' H : Hp} (h : Hp.le H' H) : Hp.le (F.add H') (F.add H) := fun g B hB => by
  unfold Hp.add at hB ⊢
  cases e : F g with
  | some C => rw [e] at hB; exact hB
  | none => rw [e] at hB; exact h g B hB
theorem patterns_ok (p : Pz) (l : List Int) (hok : okTr p l) : AC Try.prog 97 [pz p, ints l] Hp.emp (fun _ => false) (postP p l) := by
  have hi0 := okTr_in hok
  have hm := hok.1.1.2.1
  have hn := hok.1.n
  have hB : isB l := isB_of hok.1.n20 hi0.2.2
  have hll := lets_length p.m.length
  have hml := mvP_length p
  have hlm := lsP_length p
  refine ac_of_awp (N := ⟨_, fun _ => false, fun _ _ => rfl⟩) Try.func97 rfl (by kernel_rfl) Try.ntmps97 (by simp) ?_
  simp only [argsFr, List.zipIdx_cons, List.zipIdx_nil, go_sem]
  repeat' (first | refine awp_seqK fun K hK => ?_ | (refine awp_regionK 664091301279642662903 rfl ?_; simp only [List.map_cons, List.map_nil]; simp (maxSteps := 1000000) (dsimp := false) (implicitDefEqProofs := false) (disch := omega) only [wrap64, go_sem]) | (refine awp_regionQK 664091301279642662903 (by kernel_rfl) (by kernel_rfl) (by kernel_rfl) ?_; simp only [List.map_cons, List.map_nil]; simp (maxSteps := 1000000) (dsimp := false) (implicitDefEqProofs := false) (disch := omega) only [wrap64, go_sem]) | refine awp_block ?_ | (refine awp_skip ?_; simp only [go_sem]) | (refine awp_exit ?_; simp only [go_sem]) | (refine awp_ret ?_; try simp only [go_sem]) | (refine awp_condP rfl ?_; try simp only [go_sem]) | (refine BrP.mk (fun h => ?_) (fun h => ?_) <;> try simp (dsimp := false) (disch := omega) only [wrap64]) | (refine Br.mk (fun h => ?_) (fun h => ?_) <;> try simp (dsimp := false) (disch := omega) only [wrap64]) | refine Ob.mk (by first | omega | (intro _ _; rfl) | trivial | (intros; trivial) | assumption | (intro i hi; have h0 : i = 0 := (by omega); subst h0; first | rfl | trivial) | (intro i hi; have h0 : i = 0 ∨ i = 1 := (by omega); rcases h0 with rfl | rfl <;> rfl) | (intro i hi; have h0 : i = 0 ∨ i = 1 ∨ i = 2 := (by omega); rcases h0 with rfl | rfl | rfl <;> rfl)) ?_ | ((first | ((first | refine atF (f := 146) ?_ | refine atQ (f := 146) ?_); (first | (refine cI (hac := cloneI_ok l (by omega) hi0.2.1 19) (hK := ?_)) | (refine cQI (hac := cloneI_ok l (by omega) hi0.2.1 19) (hK := ?_)))) | ((first | refine atF (f := 147) ?_ | refine atQ (f := 147) ?_); (first | (refine cV (hac := stateKey_ok l (by omega) hB) (hK := ?_)) | (refine cQV (hac := stateKey_ok l (by omega) hB) (hK := ?_)))) | ((first | refine atF (f := 148) ?_ | refine atQ (f := 148) ?_); (first | (refine cFI (hac := letters_ok p.m.length (by omega) 29) (hK := ?_)) | (refine cQI (hac := letters_ok p.m.length (by omega) 29) (hK := ?_))))); simp (maxSteps := 1000000) (dsimp := false) (implicitDefEqProofs := false) (disch := omega) only [wrap64, go_sem]) | apply_assumption -exfalso -symm)
  all_goals (first | (show endQ _ _ _ _ _ _ _; (repeat (rename (∀ (A : Fr) (H : Hp), AWP _ _ _ _ A H → _) => hK; clear hK)); (repeat (rename (Fr → Hp → Prop) => K; clear K))) | (show Exists _; (repeat (rename (∀ (A : Fr) (H : Hp), AWP _ _ _ _ A H → _) => hK; clear hK)); (repeat (rename (Fr → Hp → Prop) => K; clear K))) | skip)
  refine awp_loop (ι := Nat) (fun i => [(31, .v (.int .i64 (i))), (30, .v (.int .i64 ((lets p.m.length).length))), (29, .list false 1 (lets p.m.length).length (cM iv 0 (lets p.m.length))), (10, .own 30 0 1 i), (9, .map 22), (8, .own 21 0 1 1), (7, .own 20 0 1 1), (2, .ref 2 0)]) (fun i => (((((Hp.emp.upd 2 (.cells 3 (vecF [.v (.int .i64 (p.n)), .v (.string (p.s)), .list false 1 (p.m).length (cM ints [] (p.m))]))).upd 19 (.cells l.length (cM iv 0 l))).upd 20 (.cells 1 (setF (zF [Value.slice none 0 0]) 0 (AV.own 19 0 1 l.length)))).upd 21 (.cells 1 (cM iv 0 [0]))).upd 22 (.mp [(Value.string (keyB l), AV.v (Value.bool true))])).upd 30 (.cells i (cM ints [] ((mvP p).take i)))) (fun i => i ≤ 2 * p.m.length) (fun i => 2 * p.m.length - i) 0 (Nat.zero_le _) (Sub.trans (Sub.nil (i := 10) 30 1 (cM ints [] []) rfl rfl) (Sub.toL (by simp only [go_sem] <;> first | trivial | (simp only [Option.some.injEq, AV.v.injEq, AV.own.injEq, AV.list.injEq, Value.int.injEq, Value.bool.injEq, true_and, and_true]; first | omega | (simp; done)) | (simp; done) | (simp; omega)) (by simp only [go_sem]; repeat' (first | exact Hp.le_emp _ | refine Hp.le_upd rfl ?_)))) ?_
  intro i hi2
  have hl1 := lets_inL p.m i
  repeat' (first | refine awp_seqK fun K hK => ?_ | (refine awp_regionK 664091301279642662903 rfl ?_; simp only [List.map_cons, List.map_nil]; simp (maxSteps := 1000000) (dsimp := false) (implicitDefEqProofs := false) (disch := omega) only [wrap64, go_sem]) | (refine awp_regionQK 664091301279642662903 (by kernel_rfl) (by kernel_rfl) (by kernel_rfl) ?_; simp only [List.map_cons, List.map_nil]; simp (maxSteps := 1000000) (dsimp := false) (implicitDefEqProofs := false) (disch := omega) only [wrap64, go_sem]) | refine awp_block ?_ | (refine awp_skip ?_; simp only [go_sem]) | (refine awp_exit ?_; simp only [go_sem]) | (refine awp_ret ?_; try simp only [go_sem]) | (refine awp_condP rfl ?_; try simp only [go_sem]) | (refine BrP.mk (fun h => ?_) (fun h => ?_) <;> try simp (dsimp := false) (disch := omega) only [wrap64]) | (refine Br.mk (fun h => ?_) (fun h => ?_) <;> try simp (dsimp := false) (disch := omega) only [wrap64]) | refine Ob.mk (by first | omega | (intro _ _; rfl) | trivial | (intros; trivial) | assumption | (intro i hi; have h0 : i = 0 := (by omega); subst h0; first | rfl | trivial) | (intro i hi; have h0 : i = 0 ∨ i = 1 := (by omega); rcases h0 with rfl | rfl <;> rfl) | (intro i hi; have h0 : i = 0 ∨ i = 1 ∨ i = 2 := (by omega); rcases h0 with rfl | rfl | rfl <;> rfl)) ?_ | ((first | ((first | refine atF (f := 130) ?_ | refine atQ (f := 130) ?_); (first | (refine cR (hac := implLetterOf_ok p.n.toNat p.m ((lets p.m.length).getD i 0) hok.1.gens (hl1 (by omega))) (hK := ?_)) | (refine cQR (hac := implLetterOf_ok p.n.toNat p.m ((lets p.m.length).getD i 0) hok.1.gens (hl1 (by omega))) (hK := ?_))))); simp (maxSteps := 1000000) (dsimp := false) (implicitDefEqProofs := false) (disch := omega) only [wrap64, go_sem]) | apply_assumption -exfalso -symm)
  all_goals (first | (show endQ _ _ _ _ _ _ _; (repeat (rename (∀ (A : Fr) (H : Hp), AWP _ _ _ _ A H → _) => hK; clear hK)); (repeat (rename (Fr → Hp → Prop) => K; clear K))) | (show Exists _; (repeat (rename (∀ (A : Fr) (H : Hp), AWP _ _ _ _ A H → _) => hK; clear hK)); (repeat (rename (Fr → Hp → Prop) => K; clear K))) | skip)
  · have e : (mvP p).take i ++ [letP p.m ((lets p.m.length).getD i 0)] = (mvP p).take (i + 1) := by
      rw [← mvP_get p i (by omega), List.take_succ_eq_append_getElem (by omega), List.getD_eq_getElem?_getD, List.getElem?_eq_getElem (by omega)]; rfl
    refine ⟨i + 1, by omega, by omega, Sub.trans (Sub.cellsE 30 (cM ints [] ((mvP p).take (i + 1))) rfl (e ▸ apF_ints (by rw [List.length_take]; omega))) (Sub.toL (by simp only [go_sem] <;> first | trivial | (simp only [Option.some.injEq, AV.v.injEq, AV.own.injEq, AV.list.injEq, Value.int.injEq, Value.bool.injEq, true_and, and_true]; first | omega | (simp; done)) | (simp; done) | (simp; omega)) (by (repeat' (first | exact Hp.le_emp _ | exact Hp.le_refl _ | refine Hp.le_upd ?_ ?_)); all_goals (first | rfl | (simp only [go_sem]; first | rfl | (refine cellsE ?_ ?_ <;> (simp)) | (simp)))))⟩
  · have e : i = (mvP p).length := by omega
    subst e
    rw [List.take_length]
    have hb0 := hi0.2.2
    have hG := lsP_pm hok.1
    refine awp_loop (ι := Nat) (fun k => [(13, .v (.int .i64 (k))), (10, .own 30 0 1 (mvP p).length), (9, .map 22), (8, .own 21 0 1 (Bf.run (lsP p) l k).dp.length), (7, .own 20 0 1 (Bf.run (lsP p) l k).st.length), (2, .ref 2 0)]) (fun k => hQ p (Bf.run (lsP p) l k)) (fun k => (∀ j, j < k → j < (Bf.run (lsP p) l j).st.length) ∧ (Bf.run (lsP p) l k).st.length ≤ 3000) (fun k => 3001 - k) 0 ⟨fun j hj => absurd hj (Nat.not_lt_zero j), by simp [Bf.run]⟩ ?_ ?_
    · refine Sub.absorb (d := 20) (e := 19) (k := 0) (n := 1) (xss := [l]) (H' := rQ p ⟨[l], [0], [], [], []⟩) (f := setF (zF [Value.slice none 0 0]) 0 (AV.own 19 0 1 l.length)) (by omega) (by omega) (by omega) (by omega) (by omega) rfl rfl (fun i hi => ?_) rfl (fun i hi => absurd hi (Nat.not_lt_zero i)) (by simp only [go_sem] <;> first | trivial | (simp only [Option.some.injEq, AV.v.injEq, AV.own.injEq, AV.list.injEq, Value.int.injEq, Value.bool.injEq, true_and, and_true]; first | omega | (simp; done)) | (simp; done) | (simp; omega)) (by simp only [Fr.low, AV.low, and_true, true_and]; omega) (rQ_low rfl rfl rfl rfl (.inr rfl))
      obtain rfl : i = 0 := by omega
      simp [setF]
    rintro k ⟨hk, hk3⟩
    have hJ := Bf.J.run hG hb0 k hk
    have hld := hJ.ld
    have hk4 : k ≤ 3000 := by
      by_cases e : k = 0
      · omega
      · have h1 := hk (k - 1) (by omega)
        have h2 := (Bf.run_more (Ls := lsP p) (s0 := l) (show k - 1 ≤ k by omega)).st.length_le
        omega
    unfold hQ
    repeat' (first | refine awp_seqK fun K hK => ?_ | (refine awp_regionK 664091301279642662903 rfl ?_; simp only [List.map_cons, List.map_nil]; simp (maxSteps := 1000000) (dsimp := false) (implicitDefEqProofs := false) (disch := omega) only [wrap64, go_sem]) | (refine awp_regionQK 664091301279642662903 (by kernel_rfl) (by kernel_rfl) (by kernel_rfl) ?_; simp only [List.map_cons, List.map_nil]; simp (maxSteps := 1000000) (dsimp := false) (implicitDefEqProofs := false) (disch := omega) only [wrap64, go_sem]) | refine awp_block ?_ | (refine awp_skip ?_; simp only [go_sem]) | (refine awp_exit ?_; simp only [go_sem]) | (refine awp_ret ?_; try simp only [go_sem]) | (refine awp_condP rfl ?_; try simp only [go_sem]) | (refine BrP.mk (fun h => ?_) (fun h => ?_) <;> try simp (dsimp := false) (disch := omega) only [wrap64]) | (refine Br.mk (fun h => ?_) (fun h => ?_) <;> try simp (dsimp := false) (disch := omega) only [wrap64]) | refine Ob.mk (by first | omega | (intro _ _; rfl) | trivial | (intros; trivial) | assumption | (intro i hi; have h0 : i = 0 := (by omega); subst h0; first | rfl | trivial) | (intro i hi; have h0 : i = 0 ∨ i = 1 := (by omega); rcases h0 with rfl | rfl <;> rfl) | (intro i hi; have h0 : i = 0 ∨ i = 1 ∨ i = 2 := (by omega); rcases h0 with rfl | rfl | rfl <;> rfl)) ?_ | apply_assumption -exfalso -symm)
    all_goals (first | (show endQ _ _ _ _ _ _ _; (repeat (rename (∀ (A : Fr) (H : Hp), AWP _ _ _ _ A H → _) => hK; clear hK)); (repeat (rename (Fr → Hp → Prop) => K; clear K))) | (show Exists _; (repeat (rename (∀ (A : Fr) (H : Hp), AWP _ _ _ _ A H → _) => hK; clear hK)); (repeat (rename (Fr → Hp → Prop) => K; clear K))) | skip)
    · have hh : ∀ j, j ≤ k → j < (Bf.run (lsP p) l j).st.length := fun j hj => by
        by_cases e : j = k
        · subst e; omega
        · exact hk j (by omega)
      have hh' : Hold (∀ j, j ≤ k → j < (Bf.run (lsP p) l j).st.length) := ⟨hh⟩
      refine awp_loop (ι := Nat) (fun i => [(51, .v (.int .i64 (i))), (50, .v (.int .i64 ((mvP p).length))), (49, .own 30 0 1 (mvP p).length), (13, .v (.int .i64 (k))), (10, .own 30 0 1 (mvP p).length), (9, .map 22), (8, .own 21 0 1 ((Bf.run (lsP p) l k).rows (lsP p) k i).1.dp.length), (7, .own 20 0 1 ((Bf.run (lsP p) l k).rows (lsP p) k i).1.st.length), (2, .ref 2 0)]) (fun i => hQ p ((Bf.run (lsP p) l k).rows (lsP p) k i).1) (fun i => i ≤ (lsP p).length ∧ ((Bf.run (lsP p) l k).rows (lsP p) k i).1.st.length ≤ 3000) (fun i => (lsP p).length - i) 0 ⟨Nat.zero_le _, hk3⟩ (Sub.toL (by simp only [go_sem] <;> first | trivial | (simp only [Option.some.injEq, AV.v.injEq, AV.own.injEq, AV.list.injEq, Value.int.injEq, Value.bool.injEq, true_and, and_true]; first | omega | (simp; done)) | (simp; done) | (simp; omega)) (Hp.le_refl _)) ?_
      rintro i ⟨hi, hi3⟩
      obtain ⟨hJ1, hD1, hkl, hrow⟩ := Bf.mid hG hb0 hh hi
      have hry := fun hi hm => Bf.rows_yes (Ls := lsP p) (k := k) (i := i) (B := Bf.run (lsP p) l k) hi hm
      have hrn := fun hi hm => Bf.rows_no (Ls := lsP p) (k := k) (i := i) (B := Bf.run (lsP p) l k) hi hm
      have hcut := fun hi hm hx => Bf.cut (Ls := lsP p) (k := k) (i := i) (s0 := l) hh'.h hi hm hx
      obtain ⟨X, hX⟩ : ∃ X, X = ((Bf.run (lsP p) l k).rows (lsP p) k i).1 := ⟨_, rfl⟩
      rw [← hX] at hJ1 hD1 hkl hrow hi3 hry hrn hcut ⊢
      have hld1 := hJ1.ld
      have hdk := hD1.le k hkl
      have hrk := hrow _ (Go.Pm.mem_getD hkl)
      have hsB : ∀ s ∈ X.st, isB s := fun s hs => isB_of hok.1.n20 (hrow s hs).2
      obtain ⟨y, hy⟩ : ∃ y, y = comp (X.st.getD k []) ((mvP p).getD i []) := ⟨_, rfl⟩
      have hyl : y.length ≤ 20 := by rw [hy, Go.Pm.comp_length, hrk.1]; exact hi0.1
      have hyB : i < (lsP p).length → isB y := fun h => by
        have hl1 := lets_inL p.m i (by omega)
        have h2 := letP_pm hok.1.gens hl1
        rw [hy, mvP_get p i (by omega)]
        refine isB_of hok.1.n20 (comp_rng hrk.2 h2)
      have hmvl : i < (lsP p).length → ((mvP p).getD i []).length = p.n.toNat := fun h => by
        rw [mvP_get p i (by omega)]
        exact (letP_pm hok.1.gens (lets_inL p.m i (by omega))).1
      have hpk : pick ((mvP p).getD i []) (X.st.getD k []) = y := hy.symm
      have hmix : mixF 20 X.st X.st.length k = .own (sub 20 k) 0 1 (X.st.getD k []).length := mixF_lt hkl
      have hk1 := fun h => lk_yes (xs := X.st) (hyB h) hsB
      have hk2 := fun h => lk_is (xs := X.st) (hyB h) hsB
      clear hJ1 hD1 hh hrow hJ hk
      unfold hQ
      repeat' (first | (refine Ob.mk (decide_eq_false (by assumption)) ?_) | refine awp_seqK fun K hK => ?_ | (refine awp_regionK 664091301279642662903 rfl ?_; simp only [List.map_cons, List.map_nil]; simp (maxSteps := 1000000) (dsimp := false) (implicitDefEqProofs := false) (disch := omega) only [wrap64, go_sem, hk1, hk2, kvb_snoc, hmix, hpk]) | (refine awp_regionQK 664091301279642662903 (by kernel_rfl) (by kernel_rfl) (by kernel_rfl) ?_; simp only [List.map_cons, List.map_nil]; simp (maxSteps := 1000000) (dsimp := false) (implicitDefEqProofs := false) (disch := omega) only [wrap64, go_sem, hk1, hk2, kvb_snoc, hmix, hpk]) | refine awp_block ?_ | (refine awp_skip ?_; simp only [go_sem, hk1, hk2, kvb_snoc, hmix, hpk]) | (refine awp_exit ?_; simp only [go_sem, hk1, hk2, kvb_snoc, hmix, hpk]) | (refine awp_ret ?_; try simp only [go_sem, hk1, hk2, kvb_snoc, hmix, hpk]) | (refine awp_condP rfl ?_; try simp only [go_sem, hk1, hk2, kvb_snoc, hmix, hpk]) | (refine BrP.mk (fun h => ?_) (fun h => ?_) <;> try simp (dsimp := false) (disch := omega) only [wrap64]) | (refine Br.mk (fun h => ?_) (fun h => ?_) <;> try simp (dsimp := false) (disch := omega) only [wrap64]) | refine Ob.mk (by first | omega | (intro _ _; rfl) | trivial | (intros; trivial) | assumption | (intro i hi; have h0 : i = 0 := (by omega); subst h0; first | rfl | trivial) | (intro i hi; have h0 : i = 0 ∨ i = 1 := (by omega); rcases h0 with rfl | rfl <;> rfl) | (intro i hi; have h0 : i = 0 ∨ i = 1 ∨ i = 2 := (by omega); rcases h0 with rfl | rfl | rfl <;> rfl)) ?_ | ((first | ((first | refine atF (f := 81) ?_ | refine atQ (f := 81) ?_); refine cI (hfit := .cons (.refl _) (.cons (fits_I (by exact add_sub (by rw [FB_eq]; omega) hkl (by rw [FB_eq]; omega)) trivial rfl rfl) .nil)) (hac := picked_ok ((mvP p).getD i []) (X.st.getD k []) (by omega) (fun j hj => by have := hrk.2 j hj; rw [hmvl (by omega)]; exact this) 60) (hK := ?_)) | ((first | refine atF (f := 147) ?_ | refine atQ (f := 147) ?_); (first | (refine cV (hac := stateKey_ok y (by omega) (hyB (by omega))) (hK := ?_)) | (refine cQV (hac := stateKey_ok y (by omega) (hyB (by omega))) (hK := ?_))))); simp (maxSteps := 1000000) (dsimp := false) (implicitDefEqProofs := false) (disch := omega) only [wrap64, go_sem, hk1, hk2, kvb_snoc, hmix, hpk]) | apply_assumption -exfalso -symm)
      all_goals (first | (show endQ _ _ _ _ _ _ _; (repeat (rename (∀ (A : Fr) (H : Hp), AWP _ _ _ _ A H → _) => hK; clear hK)); (repeat (rename (Fr → Hp → Prop) => K; clear K))) | (show Exists _; (repeat (rename (∀ (A : Fr) (H : Hp), AWP _ _ _ _ A H → _) => hK; clear hK)); (repeat (rename (Fr → Hp → Prop) => K; clear K))) | skip)
      · obtain ⟨e1, e2, _⟩ := hry (by omega) (by rw [← mvP_ls p (by omega), ← hy]; assumption)
        refine ⟨i + 1, ⟨by omega, by rw [e1]; exact hi3⟩, by omega, ?_⟩
        rw [e1, e2]
        exact Sub.toL (by simp only [go_sem] <;> first | trivial | (simp only [Option.some.injEq, AV.v.injEq, AV.own.injEq, AV.list.injEq, Value.int.injEq, Value.bool.injEq, true_and, and_true]; first | omega | (simp; done)) | (simp; done) | (simp; omega)) (le_free (add_low (by rw [FB_eq]; omega) (by omega)) (Hp.le_refl _))
      · have e := hcut (by omega) (by rw [← mvP_ls p (by omega), ← hy]; assumption) (by omega)
        exact end_tup3 rfl (by decide) (by decide) (by decide) (Sub.toL (by simp only [go_sem] <;> first | trivial | (simp only [Option.some.injEq, AV.v.injEq, AV.own.injEq, AV.list.injEq, Value.int.injEq, Value.bool.injEq, true_and, and_true]; first | omega | (simp; done)) | (simp; done) | (simp; omega)) (Hp.le_emp _)) (.inr ⟨by rw [QS_yes hok, e]; rfl, rfl, rfl⟩)
      · obtain ⟨e1, e2, _⟩ := hrn (by omega) (by rw [← mvP_ls p (by omega), ← hy]; assumption)
        rw [← mvP_ls p (by omega), ← hy] at e1
        refine ⟨i + 1, ⟨by omega, by rw [e1]; simp; omega⟩, by omega, ?_⟩
        rw [e1, e2, sc_mix (by omega), sc_mix (by omega), sc_mix (by omega)]
        have hyN : (X.st ++ [y]).getD X.st.length [] = y := by rw [getD_append, if_neg (by omega), Nat.sub_self]; rfl
        have hyL : ∀ i, i < X.st.length → (X.st ++ [y]).getD i [] = X.st.getD i [] := fun i hi => by rw [getD_append, if_pos hi]
        have eL : (X.st ++ [y]).length = X.st.length + 1 := by simp
        have eD : (X.dp ++ [X.dp.getD k 0 + 1]).length = X.dp.length + 1 := by simp
        rw [eL]
        show Sub _ _ _ _ ((PR 20 (X.st ++ [y]) (X.st.length + 1) (X.st.length + 1)).add (rQ p ⟨X.st ++ [y], X.dp ++ [X.dp.getD k 0 + 1], [], [], []⟩))
        refine Sub.absorb (d := 20) (e := 60) (k := X.st.length) (n := X.st.length + 1) (xss := X.st ++ [y]) (H' := rQ p ⟨X.st ++ [y], X.dp ++ [X.dp.getD k 0 + 1], [], [], []⟩) (f := apF X.st.length (mixF 20 X.st X.st.length) (setF (zF [Value.slice none 0 0]) 0 (AV.own 60 0 1 y.length))) (by omega) (by omega) (by omega) (by omega) (by omega) rfl rfl (fun i hi => ?_) (by rw [hyN]; rfl) (fun i hi => ?_) (by simp only [go_sem] <;> first | trivial | (simp only [Option.some.injEq, AV.v.injEq, AV.own.injEq, AV.list.injEq, Value.int.injEq, Value.bool.injEq, true_and, and_true]; first | omega | (simp; done)) | (simp; done) | (simp; omega)) (by simp only [Fr.low, AV.low, and_true, true_and]; omega) (rQ_low rfl (by rw [eD]; rfl) rfl rfl (.inl (by omega)))
        · rw [hyN]
          unfold apF
          by_cases hx : i < X.st.length
          · rw [if_pos hx, if_neg (by omega)]
            unfold mixF
            rw [if_pos hx, if_pos hx, hyL i hx]
          · obtain rfl : i = X.st.length := by omega
            rw [if_neg (by omega), if_pos rfl, Nat.sub_self]; simp [setF]
        · have hge := sub_ge 20 i
          rw [FB_eq] at hge
          rw [hyL i hi]
          simp (disch := omega) only [Hp.upd_app, if_neg]
          exact add_sub (by rw [FB_eq]; omega) hi (by rw [FB_eq]; omega)
      · have ei : i = (lsP p).length := by omega
        have e1 : (Bf.run (lsP p) l (k + 1)).st = X.st := by rw [hX, ei]; rfl
        have e2 : (Bf.run (lsP p) l (k + 1)).dp = X.dp := by rw [hX, ei]; rfl
        refine ⟨k + 1, ⟨fun j hj => hh'.h j (by omega), by rw [e1]; exact hi3⟩, by omega, ?_⟩
        rw [e1, e2]
        exact Sub.toL (by simp only [go_sem] <;> first | trivial | (simp only [Option.some.injEq, AV.v.injEq, AV.own.injEq, AV.list.injEq, Value.int.injEq, Value.bool.injEq, true_and, and_true]; first | omega | (simp; done)) | (simp; done) | (simp; omega)) (Hp.le_refl _)
    · have hdn : Bf.Done (lsP p) l k := ⟨by
        by_cases e : k = 0
        · have := hJ.ne.2; omega
        · have h1 := hk (k - 1) (by omega)
          have h2 := (Bf.run_more (Ls := lsP p) (s0 := l) (show k - 1 ≤ k by omega)).st.length_le
          omega, hk⟩
      have e : QS p l = some (Bf.run (lsP p) l k) := by
        rw [QS_yes hok]
        exact Go.Pm.srch_some ⟨k, hdn, by omega, rfl⟩
      refine end_tup3 (a := .own 20 0 1 (Bf.run (lsP p) l k).st.length) (b := .own 21 0 1 (Bf.run (lsP p) l k).dp.length) (c := .v (.bool true)) (H' := (RR 20 (Bf.run (lsP p) l k).st).add (Hp.emp.upd 21 (.cells (Bf.run (lsP p) l k).dp.length (cM iv 0 (Bf.run (lsP p) l k).dp)))) rfl (by decide) (by decide) (by decide) (Sub.toL (by simp only [go_sem] <;> first | trivial | (simp only [Option.some.injEq, AV.v.injEq, AV.own.injEq, AV.list.injEq, Value.int.injEq, Value.bool.injEq, true_and, and_true]; first | omega | (simp; done)) | (simp; done) | (simp; omega)) ?_) (.inl ⟨by rw [e]; rfl, by rw [QA_some e], by rw [QA_some e]⟩)
      exact le_addF (le_free rfl (le_free rfl (Hp.le_upd rfl (Hp.le_emp _))))
/-- Names that a search of patterns hands back. -/
def pQ (h : Nat) : Bool := famB 20 h || h == 21
theorem pQ_low {h : Nat} (hh : h < 20) : pQ h = false := by
  unfold pQ
  rw [famB_low (by rw [FB_eq]; omega) (by omega)]
  exact beq_eq_false_iff_ne.2 (by omega)
section
variable {P : Program} {N : Cx} {A : Fr} {H : Hp}
/-- A call of patterns. -/
theorem callQ3 {f : FuncId} {args : List AV} {p : Pz} {l : List Int} {pn : Nat → Bool} {K : AV → Fr → Hp → Prop} (hac : AC P f args Hp.emp pn (postP p l)) (hpn : N.pn = fun _ => false)
    (h1 : (QS p l).isSome = true → K (.tup 3 (vecF [.own 20 0 1 (QA p l).st.length, .own 21 0 1 (QA p l).dp.length, .v (.bool (true))])) (A.scrub pQ) ((RR 20 (QA p l).st).add ((H.scrub pQ).upd 21 (.cells (QA p l).dp.length (cM iv 0 (QA p l).dp)))))
    (h2 : (QS p l).isSome = false → K (.tup 3 (vecF [.v (.slice none 0 0), .v (.slice none 0 0), .v (.bool (false))])) (A.scrub pQ) (H.scrub pQ)) : CallG P N f args A H K := by
  refine callG_of hac pQ false (by simp [Hp.emp]) (FitsL.refl _) (fun _ => rfl) (by simp [Hp.emp]) (by simp [hpn]) ?_
  intro r H' hp
  obtain ⟨hb1, hb2⟩ := QA_basic p l
  rcases hp with ⟨hs, rfl, rfl⟩ | ⟨hs, rfl, rfl⟩
  · have hl : ∀ h, liveB ((RR 20 (QA p l).st).add (Hp.emp.upd 21 (.cells (QA p l).dp.length (cM iv 0 (QA p l).dp)))) h = true → pQ h = true := fun h e => by
      unfold liveB at e
      unfold pQ
      by_cases e2 : h = 21
      · rw [e2]; simp
      · cases e3 : RR 20 (QA p l).st h with
        | some B =>
          have e4 : RR 20 (QA p l).st h ≠ none := by rw [e3]; simp
          rw [PR_live e4]; rfl
        | none =>
          rw [Hp.add_none e3] at e
          unfold Hp.upd at e
          rw [if_neg e2] at e; cases e
    have l20 : liveB ((RR 20 (QA p l).st).add (Hp.emp.upd 21 (.cells (QA p l).dp.length (cM iv 0 (QA p l).dp)))) 20 = true := by unfold liveB; rw [add_self]; rfl
    have l21 : liveB ((RR 20 (QA p l).st).add (Hp.emp.upd 21 (.cells (QA p l).dp.length (cM iv 0 (QA p l).dp)))) 21 = true := by unfold liveB; rw [add_low (by rw [FB_eq]; omega) (by omega)]; rfl
    have ls : ∀ i, i < (QA p l).st.length → liveB ((RR 20 (QA p l).st).add (Hp.emp.upd 21 (.cells (QA p l).dp.length (cM iv 0 (QA p l).dp)))) (sub 20 i) = true := fun i hi => by
      unfold liveB; rw [add_sub (by rw [FB_eq]; omega) hi (by rw [FB_eq]; omega)]; rfl
    refine ⟨fun h h1 _ => hl h (Option.isSome_iff_ne_none.2 h1), by simp, ?_⟩
    generalize hq : (fun h => !liveB ((RR 20 (QA p l).st).add (Hp.emp.upd 21 (.cells (QA p l).dp.length (cM iv 0 (QA p l).dp)))) h) = q
    have q20 : q 20 = false := by rw [← hq]; simp [l20]
    have q21 : q 21 = false := by rw [← hq]; simp [l21]
    have qs : ∀ i, i < (QA p l).st.length → q (sub 20 i) = false := fun i hi => by rw [← hq]; simp [ls i hi]
    have e1 : ((RR 20 (QA p l).st).add (Hp.emp.upd 21 (.cells (QA p l).dp.length (cM iv 0 (QA p l).dp)))).scrub q = (RR 20 (QA p l).st).add (Hp.emp.upd 21 (.cells (QA p l).dp.length (cM iv 0 (QA p l).dp))) := by
      funext h
      unfold Hp.scrub Hp.add
      cases e3 : RR 20 (QA p l).st h with
      | some B =>
        rcases RR_cases e3 with ⟨_, rfl⟩ | ⟨i, hi, _, rfl⟩
        · simp only [Option.map_some, Option.some.injEq, Blk.scrub_cells]
          congr 1
          funext i
          exact mixF_plain_scrub qs i
        · rfl
      | none =>
        unfold Hp.upd
        by_cases e2 : h = 21
        · rw [if_pos e2]; rfl
        · rw [if_neg e2]; rfl
    have e2 : Hp.over ((RR 20 (QA p l).st).add (Hp.emp.upd 21 (.cells (QA p l).dp.length (cM iv 0 (QA p l).dp)))) (H.scrub pQ) Hp.emp = (RR 20 (QA p l).st).add ((H.scrub pQ).upd 21 (.cells (QA p l).dp.length (cM iv 0 (QA p l).dp))) := by
      funext h
      unfold Hp.over Hp.add
      cases e3 : RR 20 (QA p l).st h with
      | some B => rfl
      | none =>
        unfold Hp.upd
        by_cases e2 : h = 21
        · rw [if_pos e2, if_pos e2]
        · rw [if_neg e2, if_neg e2]; simp [Hp.emp]
    rw [e1, e2]
    simp only [scrub_tup, scF_vecF, List.map_cons, List.map_nil, scrub_own, scrub_v, q20, q21, Bool.false_eq_true, if_false]
    exact h1 hs
  · refine ⟨by simp [Hp.emp], by simp, ?_⟩
    have e2 : Hp.over (Hp.emp.scrub fun h => !liveB Hp.emp h) (H.scrub pQ) Hp.emp = H.scrub pQ := by
      funext h
      unfold Hp.over
      simp [Hp.emp, Hp.scrub]
    rw [e2]
    simp only [scrub_tup, scF_vecF, List.map_cons, List.map_nil, scrub_v]
    exact h2 hs
end
theorem implReachablePatterns_ok (p : Pz) (l : List Int) (hs0 : p.s.size ≤ 140737488355328) (hl0 : l.length ≤ 1048576) : AC Try.prog 40 [pz p, ints l] Hp.emp (fun _ => false) (postP p l) := by
  have hpa := fun k : isPz p ∧ isTr p.n l => patterns_ok p l k
  refine ac_of_awp (N := ⟨_, fun _ => false, fun _ _ => rfl⟩) Try.func40 rfl (by kernel_rfl) Try.ntmps40 (by simp) ?_
  simp only [argsFr, List.zipIdx_cons, List.zipIdx_nil, go_sem]
  repeat' (first | ((first | refine atF (f := 97) ?_ | refine atQ (f := 97) ?_); refine callQ3 (hpa (by assumption)) rfl (fun hX => ?_) (fun hX => ?_) <;> simp (maxSteps := 1000000) (dsimp := false) (implicitDefEqProofs := false) (disch := omega) only [wrap64, go_sem, pQ_low]) | refine awp_seqK fun K hK => ?_ | (refine awp_regionK 1143 rfl ?_; simp only [List.map_cons, List.map_nil]; simp (maxSteps := 1000000) (dsimp := false) (implicitDefEqProofs := false) (disch := omega) only [wrap64, go_sem, pQ_low]) | (refine awp_regionQK 1143 (by kernel_rfl) (by kernel_rfl) (by kernel_rfl) ?_; simp only [List.map_cons, List.map_nil]; simp (maxSteps := 1000000) (dsimp := false) (implicitDefEqProofs := false) (disch := omega) only [wrap64, go_sem, pQ_low]) | refine awp_block ?_ | (refine awp_skip ?_; simp only [go_sem, pQ_low]) | (refine awp_exit ?_; simp only [go_sem, pQ_low]) | (refine awp_ret ?_; try simp only [go_sem, pQ_low]) | (refine awp_condP rfl ?_; try simp only [go_sem, pQ_low]) | (refine BrP.mk (fun h => ?_) (fun h => ?_) <;> try simp (dsimp := false) (disch := omega) only [wrap64]) | (refine Br.mk (fun h => ?_) (fun h => ?_) <;> try simp (dsimp := false) (disch := omega) only [wrap64]) | refine Ob.mk (by first | omega | (intro _ _; rfl) | trivial | (intros; trivial) | assumption | (intro i hi; have h0 : i = 0 := (by omega); subst h0; first | rfl | trivial) | (intro i hi; have h0 : i = 0 ∨ i = 1 := (by omega); rcases h0 with rfl | rfl <;> rfl) | (intro i hi; have h0 : i = 0 ∨ i = 1 ∨ i = 2 := (by omega); rcases h0 with rfl | rfl | rfl <;> rfl)) ?_ | ((first | ((first | refine atF (f := 96) ?_ | refine atQ (f := 96) ?_); (first | (refine cV (hac := implIsTrackedSet_ok p l hs0 hl0) (hK := ?_)) | (refine cQV (hac := implIsTrackedSet_ok p l hs0 hl0) (hK := ?_))))); simp (maxSteps := 1000000) (dsimp := false) (implicitDefEqProofs := false) (disch := omega) only [wrap64, go_sem, pQ_low]) | apply_assumption -exfalso -symm)
  all_goals (first | (show endQ _ _ _ _ _ _ _; (repeat (rename (∀ (A : Fr) (H : Hp), AWP _ _ _ _ A H → _) => hK; clear hK)); (repeat (rename (Fr → Hp → Prop) => K; clear K))) | (show Exists _; (repeat (rename (∀ (A : Fr) (H : Hp), AWP _ _ _ _ A H → _) => hK; clear hK)); (repeat (rename (Fr → Hp → Prop) => K; clear K))) | skip)
  · exact end_tup3 rfl (by decide) (by decide) (by decide) (Sub.toL (by simp only [go_sem] <;> first | trivial | (simp only [Option.some.injEq, AV.v.injEq, AV.own.injEq, AV.list.injEq, Value.int.injEq, Value.bool.injEq, true_and, and_true]; first | omega | (simp; done)) | (simp; done) | (simp; omega)) (le_addF (Hp.le_upd rfl (Hp.le_emp _)))) (.inl ⟨by assumption, rfl, rfl⟩)
  · exact end_tup3 rfl (by decide) (by decide) (by decide) (Sub.toL (by simp only [go_sem] <;> first | trivial | (simp only [Option.some.injEq, AV.v.injEq, AV.own.injEq, AV.list.injEq, Value.int.injEq, Value.bool.injEq, true_and, and_true]; first | omega | (simp; done)) | (simp; done) | (simp; omega)) (Hp.le_emp _)) (.inr ⟨by assumption, rfl, rfl⟩)
  · exact end_tup3 rfl (by decide) (by decide) (by decide) (Sub.toL (by simp only [go_sem] <;> first | trivial | (simp only [Option.some.injEq, AV.v.injEq, AV.own.injEq, AV.list.injEq, Value.int.injEq, Value.bool.injEq, true_and, and_true]; first | omega | (simp; done)) | (simp; done) | (simp; omega)) (Hp.le_emp _)) (.inr ⟨by rw [QS_no (by assumption)]; rfl, rfl, rfl⟩)
theorem implPatternCount_ok (p : Pz) (l : List Int) (hs0 : p.s.size ≤ 140737488355328) (hl0 : l.length ≤ 1048576) : AC Try.prog 38 [pz p, ints l] Hp.emp (fun _ => false) (retV (.v (.int .i64 (pcP p l)))) := by
  obtain ⟨hb1, hb2⟩ := QA_basic p l
  refine ac_of_awp (N := ⟨_, fun _ => false, fun _ _ => rfl⟩) Try.func38 rfl (by kernel_rfl) Try.ntmps38 (by simp) ?_
  simp only [argsFr, List.zipIdx_cons, List.zipIdx_nil, go_sem]
  repeat' (first | ((first | refine atF (f := 40) ?_ | refine atQ (f := 40) ?_); refine callQ3 (implReachablePatterns_ok p l hs0 hl0) rfl (fun hX => ?_) (fun hX => ?_) <;> simp (maxSteps := 1000000) (dsimp := false) (implicitDefEqProofs := false) (disch := omega) only [wrap64, go_sem, pQ_low]) | refine awp_seqK fun K hK => ?_ | (refine awp_regionK 65719 rfl ?_; simp only [List.map_cons, List.map_nil]; simp (maxSteps := 1000000) (dsimp := false) (implicitDefEqProofs := false) (disch := omega) only [wrap64, go_sem, pQ_low]) | (refine awp_regionQK 65719 (by kernel_rfl) (by kernel_rfl) (by kernel_rfl) ?_; simp only [List.map_cons, List.map_nil]; simp (maxSteps := 1000000) (dsimp := false) (implicitDefEqProofs := false) (disch := omega) only [wrap64, go_sem, pQ_low]) | refine awp_block ?_ | (refine awp_skip ?_; simp only [go_sem, pQ_low]) | (refine awp_exit ?_; simp only [go_sem, pQ_low]) | (refine awp_ret ?_; try simp only [go_sem, pQ_low]) | (refine awp_condP rfl ?_; try simp only [go_sem, pQ_low]) | (refine BrP.mk (fun h => ?_) (fun h => ?_) <;> try simp (dsimp := false) (disch := omega) only [wrap64]) | (refine Br.mk (fun h => ?_) (fun h => ?_) <;> try simp (dsimp := false) (disch := omega) only [wrap64]) | refine Ob.mk (by first | omega | (intro _ _; rfl) | trivial | (intros; trivial) | assumption | (intro i hi; have h0 : i = 0 := (by omega); subst h0; first | rfl | trivial) | (intro i hi; have h0 : i = 0 ∨ i = 1 := (by omega); rcases h0 with rfl | rfl <;> rfl) | (intro i hi; have h0 : i = 0 ∨ i = 1 ∨ i = 2 := (by omega); rcases h0 with rfl | rfl | rfl <;> rfl)) ?_ | ((first | ((first | refine atF (f := 93) ?_ | refine atQ (f := 93) ?_); (first | (refine cV (hac := lengthII_ok (QA p l).st) (hK := ?_)) | (refine cQV (hac := lengthII_ok (QA p l).st) (hK := ?_))))); simp (maxSteps := 1000000) (dsimp := false) (implicitDefEqProofs := false) (disch := omega) only [wrap64, go_sem, pQ_low]) | apply_assumption -exfalso -symm)
  all_goals (first | (show endQ _ _ _ _ _ _ _; (repeat (rename (∀ (A : Fr) (H : Hp), AWP _ _ _ _ A H → _) => hK; clear hK)); (repeat (rename (Fr → Hp → Prop) => K; clear K))) | (show Exists _; (repeat (rename (∀ (A : Fr) (H : Hp), AWP _ _ _ _ A H → _) => hK; clear hK)); (repeat (rename (Fr → Hp → Prop) => K; clear K))) | skip)
  · exact end_retN rfl rfl (if_pos (by assumption)).symm
  · exact end_retN rfl rfl (if_neg (by simp [*])).symm
theorem indexOf_ok (xs : List (List Int)) (q : List Int) (hx : xs.length ≤ 1048576) (hq : q.length ≤ 1048576) (hb : ∀ j, j < xs.length → (xs.getD j []).length ≤ 1048576) : AC Try.prog 102 [intss xs, ints q] Hp.emp (fun _ => false) (retV (.v (.int .i64 (fidx (fun x => decide (x = q)) xs)))) := by
  have hg : ∀ j, j < xs.length → AC Try.prog 152 [ints (xs.getD j []), .ptr 1 (fun _ => ints q)] Hp.emp (fun _ => false) (retV (.v (.bool (decide (xs.getD j [] = q))))) := fun j hj => by
    have hbj := hb j hj
    refine ac_of_awp (N := ⟨_, fun _ => false, fun _ _ => rfl⟩) Try.func152 rfl (by kernel_rfl) Try.ntmps152 (by simp) ?_
    simp only [argsFr, List.zipIdx_cons, List.zipIdx_nil, go_sem]
    repeat' (first | refine awp_seqK fun K hK => ?_ | (refine awp_regionK 11 rfl ?_; simp only [List.map_cons, List.map_nil]; simp (maxSteps := 1000000) (dsimp := false) (implicitDefEqProofs := false) (disch := omega) only [wrap64, go_sem]) | (refine awp_regionQK 11 (by kernel_rfl) (by kernel_rfl) (by kernel_rfl) ?_; simp only [List.map_cons, List.map_nil]; simp (maxSteps := 1000000) (dsimp := false) (implicitDefEqProofs := false) (disch := omega) only [wrap64, go_sem]) | refine awp_block ?_ | (refine awp_skip ?_; simp only [go_sem]) | (refine awp_exit ?_; simp only [go_sem]) | (refine awp_ret ?_; try simp only [go_sem]) | (refine awp_condP rfl ?_; try simp only [go_sem]) | (refine BrP.mk (fun h => ?_) (fun h => ?_) <;> try simp (dsimp := false) (disch := omega) only [wrap64]) | (refine Br.mk (fun h => ?_) (fun h => ?_) <;> try simp (dsimp := false) (disch := omega) only [wrap64]) | refine Ob.mk (by first | omega | (intro _ _; rfl) | trivial | (intros; trivial) | assumption | (intro i hi; have h0 : i = 0 := (by omega); subst h0; first | rfl | trivial) | (intro i hi; have h0 : i = 0 ∨ i = 1 := (by omega); rcases h0 with rfl | rfl <;> rfl) | (intro i hi; have h0 : i = 0 ∨ i = 1 ∨ i = 2 := (by omega); rcases h0 with rfl | rfl | rfl <;> rfl)) ?_ | ((first | ((first | refine atF (f := 153) ?_ | refine atQ (f := 153) ?_); (first | (refine cV (hac := slicesEqual_ok (xs.getD j []) q hbj) (hK := ?_)) | (refine cQV (hac := slicesEqual_ok (xs.getD j []) q hbj) (hK := ?_))))); simp (maxSteps := 1000000) (dsimp := false) (implicitDefEqProofs := false) (disch := omega) only [wrap64, go_sem]) | apply_assumption -exfalso -symm)
    all_goals (first | (show endQ _ _ _ _ _ _ _; (repeat (rename (∀ (A : Fr) (H : Hp), AWP _ _ _ _ A H → _) => hK; clear hK)); (repeat (rename (Fr → Hp → Prop) => K; clear K))) | (show Exists _; (repeat (rename (∀ (A : Fr) (H : Hp), AWP _ _ _ _ A H → _) => hK; clear hK)); (repeat (rename (Fr → Hp → Prop) => K; clear K))) | skip)
    · exact end_retV rfl rfl
  refine ac_of_awp (N := ⟨_, fun _ => false, fun _ _ => rfl⟩) Try.func102 rfl (by kernel_rfl) Try.ntmps102 (by simp) ?_
  simp only [argsFr, List.zipIdx_cons, List.zipIdx_nil, go_sem]
  repeat' (first | refine awp_seqK fun K hK => ?_ | (refine awp_regionK 27 rfl ?_; simp only [List.map_cons, List.map_nil]; simp (maxSteps := 1000000) (dsimp := false) (implicitDefEqProofs := false) (disch := omega) only [wrap64, go_sem]) | (refine awp_regionQK 27 (by kernel_rfl) (by kernel_rfl) (by kernel_rfl) ?_; simp only [List.map_cons, List.map_nil]; simp (maxSteps := 1000000) (dsimp := false) (implicitDefEqProofs := false) (disch := omega) only [wrap64, go_sem]) | refine awp_block ?_ | (refine awp_skip ?_; simp only [go_sem]) | (refine awp_exit ?_; simp only [go_sem]) | (refine awp_ret ?_; try simp only [go_sem]) | (refine awp_condP rfl ?_; try simp only [go_sem]) | (refine BrP.mk (fun h => ?_) (fun h => ?_) <;> try simp (dsimp := false) (disch := omega) only [wrap64]) | (refine Br.mk (fun h => ?_) (fun h => ?_) <;> try simp (dsimp := false) (disch := omega) only [wrap64]) | refine Ob.mk (by first | omega | (intro _ _; rfl) | trivial | (intros; trivial) | assumption | (intro i hi; have h0 : i = 0 := (by omega); subst h0; first | rfl | trivial) | (intro i hi; have h0 : i = 0 ∨ i = 1 := (by omega); rcases h0 with rfl | rfl <;> rfl) | (intro i hi; have h0 : i = 0 ∨ i = 1 ∨ i = 2 := (by omega); rcases h0 with rfl | rfl | rfl <;> rfl)) ?_ | ((first | ((first | refine atF (f := 151) ?_ | refine atQ (f := 151) ?_); (first | (refine cV (hac := indexFuncSS_ok xs 152 (.ptr 1 (fun _ => ints q)) (fun x => decide (x = q)) hx hg) (hK := ?_)) | (refine cQV (hac := indexFuncSS_ok xs 152 (.ptr 1 (fun _ => ints q)) (fun x => decide (x = q)) hx hg) (hK := ?_))))); simp (maxSteps := 1000000) (dsimp := false) (implicitDefEqProofs := false) (disch := omega) only [wrap64, go_sem]) | apply_assumption -exfalso -symm)
  all_goals (first | (show endQ _ _ _ _ _ _ _; (repeat (rename (∀ (A : Fr) (H : Hp), AWP _ _ _ _ A H → _) => hK; clear hK)); (repeat (rename (Fr → Hp → Prop) => K; clear K))) | (show Exists _; (repeat (rename (∀ (A : Fr) (H : Hp), AWP _ _ _ _ A H → _) => hK; clear hK)); (repeat (rename (Fr → Hp → Prop) => K; clear K))) | skip)
  · exact end_retV rfl rfl
theorem fidx_idx (xs : List (List Int)) (q : List Int) : fidx (fun x => decide (x = q)) xs = if q ∈ xs then ((xs.idxOf q : Nat) : Int) else -1 := by
  by_cases h : q ∈ xs
  · rw [if_pos h]
    have hlt := List.idxOf_lt_length_iff.2 h
    refine fidx_hit _ xs [] _ hlt (fun j hj => ?_) ?_
    · refine decide_eq_false fun e => ?_
      have h1 : j < xs.length := by omega
      rw [List.getD_eq_getElem?_getD, List.getElem?_eq_getElem h1, Option.getD_some] at e
      have h2 : (xs[j] == q) = false := List.not_of_lt_findIdx (p := fun x => x == q) hj
      rw [e, beq_self_eq_true] at h2
      cases h2
    · exact decide_eq_true (Go.Pm.getD_idx h)
  · rw [if_neg h]
    refine fidx_none _ xs [] fun j hj => decide_eq_false fun e => h ?_
    rw [← e]; exact Go.Pm.mem_getD hj
theorem implPatternDistance_ok (p : Pz) (l q : List Int) (hs0 : p.s.size ≤ 140737488355328) (hl0 : l.length ≤ 1048576) (hq0 : q.length ≤ 1048576) : AC Try.prog 47 [pz p, ints l, ints q] Hp.emp (fun _ => false) (retV (.v (.int .i64 (pdP p l q)))) := by
  obtain ⟨hb1, hb2⟩ := QA_basic p l
  have hpa := fun k : isPat p l q => patterns_ok p l (isPat_tr k).1
  have hst : (QS p l).isSome = true → ∀ j, j < (QA p l).st.length → ((QA p l).st.getD j []).length ≤ 1048576 := fun h j hj => by
    obtain ⟨h1, hw, h2⟩ := QA_whole h
    rw [hw.len _ (Go.Pm.mem_getD hj)]
    have := (okTr_in h1).1
    omega
  have hix := fun h => indexOf_ok (QA p l).st q (by omega) hq0 (hst h)
  have hi0 := indexOf_ok [] q (by simp) hq0 (fun j hj => absurd hj (Nat.not_lt_zero j))
  have hfx := fidx_idx (QA p l).st q
  obtain ⟨v, hv⟩ : ∃ v, v = fidx (fun x => decide (x = q)) (QA p l).st := ⟨_, rfl⟩
  rw [← hv] at hix hfx
  have hvb : 0 ≤ v → v < (QA p l).dp.length ∧ q ∈ (QA p l).st ∧ v = ((QA p l).st.idxOf q : Nat) := fun h => by
    split at hfx
    · rename_i k
      have := List.idxOf_lt_length_iff.2 k
      exact ⟨by omega, k, hfx⟩
    · omega
  have hvn : v < 0 → q ∉ (QA p l).st := fun h k => by rw [if_pos k] at hfx; omega
  refine ac_of_awp (N := ⟨_, fun _ => false, fun _ _ => rfl⟩) Try.func47 rfl (by kernel_rfl) Try.ntmps47 (by simp) ?_
  simp only [argsFr, List.zipIdx_cons, List.zipIdx_nil, go_sem]
  repeat' (first | (refine Ob.mk (by have := hvb (by omega); omega) ?_) | ((first | refine atF (f := 97) ?_ | refine atQ (f := 97) ?_); refine callQ3 (hpa (by assumption)) rfl (fun hX => ?_) (fun hX => ?_) <;> simp (maxSteps := 1000000) (dsimp := false) (implicitDefEqProofs := false) (disch := omega) only [wrap64, go_sem, pQ_low]) | refine awp_seqK fun K hK => ?_ | (refine awp_regionK 2147518415 rfl ?_; simp only [List.map_cons, List.map_nil]; simp (maxSteps := 1000000) (dsimp := false) (implicitDefEqProofs := false) (disch := omega) only [wrap64, go_sem, pQ_low]) | (refine awp_regionQK 2147518415 (by kernel_rfl) (by kernel_rfl) (by kernel_rfl) ?_; simp only [List.map_cons, List.map_nil]; simp (maxSteps := 1000000) (dsimp := false) (implicitDefEqProofs := false) (disch := omega) only [wrap64, go_sem, pQ_low]) | refine awp_block ?_ | (refine awp_skip ?_; simp only [go_sem, pQ_low]) | (refine awp_exit ?_; simp only [go_sem, pQ_low]) | (refine awp_ret ?_; try simp only [go_sem, pQ_low]) | (refine awp_condP rfl ?_; try simp only [go_sem, pQ_low]) | (refine BrP.mk (fun h => ?_) (fun h => ?_) <;> try simp (dsimp := false) (disch := omega) only [wrap64]) | (refine Br.mk (fun h => ?_) (fun h => ?_) <;> try simp (dsimp := false) (disch := omega) only [wrap64]) | refine Ob.mk (by first | omega | (intro _ _; rfl) | trivial | (intros; trivial) | assumption | (intro i hi; have h0 : i = 0 := (by omega); subst h0; first | rfl | trivial) | (intro i hi; have h0 : i = 0 ∨ i = 1 := (by omega); rcases h0 with rfl | rfl <;> rfl) | (intro i hi; have h0 : i = 0 ∨ i = 1 ∨ i = 2 := (by omega); rcases h0 with rfl | rfl | rfl <;> rfl)) ?_ | ((first | ((first | refine atF (f := 79) ?_ | refine atQ (f := 79) ?_); (first | (refine cV (hac := implIsPattern_ok p l q hs0 hl0 hq0) (hK := ?_)) | (refine cQV (hac := implIsPattern_ok p l q hs0 hl0 hq0) (hK := ?_)))) | (refine cV (hac := hix (by assumption)) (hK := ?_)) | (refine cQV (hac := hix (by assumption)) (hK := ?_)) | ((first | refine atF (f := 102) ?_ | refine atQ (f := 102) ?_); refine cV (hfit := .cons .nil (.cons (.refl _) .nil)) (hac := hi0) (hK := ?_))); simp (maxSteps := 1000000) (dsimp := false) (implicitDefEqProofs := false) (disch := omega) only [wrap64, go_sem, pQ_low]) | apply_assumption -exfalso -symm)
  all_goals (first | (show endQ _ _ _ _ _ _ _; (repeat (rename (∀ (A : Fr) (H : Hp), AWP _ _ _ _ A H → _) => hK; clear hK)); (repeat (rename (Fr → Hp → Prop) => K; clear K))) | (show Exists _; (repeat (rename (∀ (A : Fr) (H : Hp), AWP _ _ _ _ A H → _) => hK; clear hK)); (repeat (rename (Fr → Hp → Prop) => K; clear K))) | skip)
  · refine end_retN rfl rfl ?_
    unfold pdP depD
    rw [if_pos ⟨by assumption, by assumption⟩, if_neg (hvn (by assumption))]
  · obtain ⟨h1, h2, h3⟩ := hvb (by omega)
    refine end_retN rfl rfl ?_
    unfold pdP depD
    rw [if_pos ⟨by assumption, by assumption⟩, if_pos h2, h3]; rfl
  · exact end_retN rfl rfl (if_neg (fun k => by have := k.1; simp_all)).symm
  · exact end_retN rfl rfl (if_neg (fun k => absurd k.2 (by assumption))).symm
end Go.Proofs.Ytdllbnchcjgcdaa
end
/- The program's reachable patterns. -/
section
namespace Go.Proofs.Ytdllbnchcjgcdaa
open Go.Av
set_option linter.unusedSimpArgs false
set_option linter.unusedVariables false
attribute [local irreducible] AWP CallG Ob Br BrP Go.Av.Sub endQ AOps OpV AC thenA blkA opsVC opVC withA withArgs opsQ opQ CallQ withA2 withArgs2
theorem implReachablePatternsU_ok (p : Pz) (l : List Int) (hs0 : p.s.size ≤ 140737488355328) (hl0 : l.length ≤ 1048576) : AC Try.prog 40 [pz p, ints l] Hp.emp (fun _ => false) (retIIB 20 21 (repS p l) (repD p l) (QS p l).isSome) := by
  have hpa := fun k : isPz p ∧ isTr p.n l => patterns_ok p l k
  have hy1 : (QS p l).isSome = true → repS p l = (QA p l).st ∧ repD p l = (QA p l).dp := fun h => ⟨if_pos h, if_pos h⟩
  have hn1 : (QS p l).isSome = false → repS p l = [] ∧ repD p l = [] := fun h => ⟨if_neg (by rw [h]; exact Bool.false_ne_true), if_neg (by rw [h]; exact Bool.false_ne_true)⟩
  have hn2 : ¬ (isPz p ∧ isTr p.n l) → (QS p l).isSome = false := fun h => by rw [QS_no h]; rfl
  refine ac_of_awp (N := ⟨_, fun _ => false, fun _ _ => rfl⟩) Try.func40 rfl (by kernel_rfl) Try.ntmps40 (by simp) ?_
  simp only [argsFr, List.zipIdx_cons, List.zipIdx_nil, go_sem]
  repeat' (first | ((first | refine atF (f := 97) ?_ | refine atQ (f := 97) ?_); refine callQ3 (hpa (by assumption)) rfl (fun hX => ?_) (fun hX => ?_) <;> simp (maxSteps := 1000000) (dsimp := false) (implicitDefEqProofs := false) (disch := omega) only [wrap64, go_sem, pQ_low]) | refine awp_seqK fun K hK => ?_ | (refine awp_regionK 1143 rfl ?_; simp only [List.map_cons, List.map_nil]; simp (maxSteps := 1000000) (dsimp := false) (implicitDefEqProofs := false) (disch := omega) only [wrap64, go_sem, pQ_low]) | (refine awp_regionQK 1143 (by kernel_rfl) (by kernel_rfl) (by kernel_rfl) ?_; simp only [List.map_cons, List.map_nil]; simp (maxSteps := 1000000) (dsimp := false) (implicitDefEqProofs := false) (disch := omega) only [wrap64, go_sem, pQ_low]) | refine awp_block ?_ | (refine awp_skip ?_; simp only [go_sem, pQ_low]) | (refine awp_exit ?_; simp only [go_sem, pQ_low]) | (refine awp_ret ?_; try simp only [go_sem, pQ_low]) | (refine awp_condP rfl ?_; try simp only [go_sem, pQ_low]) | (refine BrP.mk (fun h => ?_) (fun h => ?_) <;> try simp (dsimp := false) (disch := omega) only [wrap64]) | (refine Br.mk (fun h => ?_) (fun h => ?_) <;> try simp (dsimp := false) (disch := omega) only [wrap64]) | refine Ob.mk (by first | omega | (intro _ _; rfl) | trivial | (intros; trivial) | assumption | (intro i hi; have h0 : i = 0 := (by omega); subst h0; first | rfl | trivial) | (intro i hi; have h0 : i = 0 ∨ i = 1 := (by omega); rcases h0 with rfl | rfl <;> rfl) | (intro i hi; have h0 : i = 0 ∨ i = 1 ∨ i = 2 := (by omega); rcases h0 with rfl | rfl | rfl <;> rfl)) ?_ | ((first | ((first | refine atF (f := 96) ?_ | refine atQ (f := 96) ?_); (first | (refine cV (hac := implIsTrackedSet_ok p l hs0 hl0) (hK := ?_)) | (refine cQV (hac := implIsTrackedSet_ok p l hs0 hl0) (hK := ?_))))); simp (maxSteps := 1000000) (dsimp := false) (implicitDefEqProofs := false) (disch := omega) only [wrap64, go_sem, pQ_low]) | apply_assumption -exfalso -symm)
  all_goals (first | (show endQ _ _ _ _ _ _ _; (repeat (rename (∀ (A : Fr) (H : Hp), AWP _ _ _ _ A H → _) => hK; clear hK)); (repeat (rename (Fr → Hp → Prop) => K; clear K))) | (show Exists _; (repeat (rename (∀ (A : Fr) (H : Hp), AWP _ _ _ _ A H → _) => hK; clear hK)); (repeat (rename (Fr → Hp → Prop) => K; clear K))) | skip)
  · have hX := (by assumption : (QS p l).isSome = true)
    rw [(hy1 hX).1, (hy1 hX).2, hX]
    exact end_tup3 rfl (by decide) (by decide) (by decide) (Sub.toL (by simp only [go_sem] <;> first | trivial | (simp only [Option.some.injEq, AV.v.injEq, AV.own.injEq, AV.list.injEq, Value.int.injEq, Value.bool.injEq, true_and, and_true]; first | omega | (simp; done)) | (simp; done) | (simp; omega)) (le_addF (Hp.le_upd rfl (Hp.le_emp _)))) ⟨rfl, rfl⟩
  · have hX := (by assumption : (QS p l).isSome = false)
    rw [(hn1 hX).1, (hn1 hX).2, hX]
    exact nil_IIB rfl (by decide) (by decide) (by decide) rfl rfl rfl (by decide) (by decide) (by decide) rfl
  · have hX := hn2 (by assumption)
    rw [(hn1 hX).1, (hn1 hX).2, hX]
    exact nil_IIB rfl (by decide) (by decide) (by decide) rfl rfl rfl (by decide) (by decide) (by decide) rfl
theorem repP_len (p : Pz) (l : List Int) : (repS p l).length ≤ 3000 ∧ (∀ j, ((repS p l).getD j []).length ≤ 20) ∧ (repD p l).length ≤ 3000 ∧ tot (repS p l) ≤ 60000 := by
  obtain ⟨hb1, hb2⟩ := QA_basic p l
  have h1 : (repS p l).length ≤ 3000 ∧ (∀ j, ((repS p l).getD j []).length ≤ 20) ∧ (repD p l).length ≤ 3000 := by
    unfold repS repD
    split
    · rename_i h
      obtain ⟨h1, hw, h2⟩ := QA_whole h
      refine ⟨h2, fun j => ?_, by omega⟩
      by_cases hj : j < (QA p l).st.length
      · rw [hw.len _ (Go.Pm.mem_getD hj)]; exact (okTr_in h1).1
      · rw [List.getD_eq_getElem?_getD, List.getElem?_eq_none (by omega)]; simp
    · simp
  refine ⟨h1.1, h1.2.1, h1.2.2, ?_⟩
  have h2 := tot_bound (repS p l) 20 h1.2.1
  have := h1.1
  omega
theorem repP_bd (p : Pz) (l : List Int) : (repS p l).length ≤ 1048576 ∧ (∀ j, ((repS p l).getD j []).length ≤ 1048576) ∧ tot (repS p l) ≤ 1048576 ∧ (repD p l).length ≤ 1048576 := by
  obtain ⟨h1, h2, h3, h4⟩ := repP_len p l
  exact ⟨by omega, fun j => by have := h2 j; omega, by omega, by omega⟩
end Go.Proofs.Ytdllbnchcjgcdaa
end
