import Derived.Test.YtpffmolibjimgaaGreatDoorS24
import Derived.Test.YtpffmolibjimgaaGreatDoorS32
/- Cycle types: what they count, and that permutations of one type are conjugate; plain. -/
section
namespace Go.Pm
set_option linter.unusedVariables false
section
variable {n : Nat} {p q x : List Int}
/-- The least points of the cycles. -/
def reps (p : List Int) : List Nat := (List.range p.length).filter (isMn p)
/-- The lengths of the cycles. -/
def lens (p : List Int) : List Nat := (reps p).map (clen p)
theorem mem_reps (h : Pm n p) {m : Nat} : m ∈ reps p ↔ m < n ∧ isMn p m = true := by
  unfold reps; rw [List.mem_filter, List.mem_range, h.1]
theorem reps_nodup (p : List Int) : (reps p).Nodup := List.nodup_range.filter _
/-- Each point lies on the cycle of a least one. -/
theorem rep_ex (h : Pm n p) {i : Nat} (hi : i < n) : ∃ m, m ∈ reps p ∧ ∃ k, k < clen p m ∧ itr p m k = i := by
  obtain ⟨k, hk⟩ := min_ex h i hi
  obtain ⟨t, ht⟩ := itr_back h hi k
  have hm := itr_lt h hi k
  refine ⟨itr p i k, (mem_reps h).2 ⟨hm, hk⟩, t % clen p (itr p i k), Nat.mod_lt _ (clen_pos _ _), ?_⟩
  rw [← itr_mod h hm]; exact ht
theorem rep_uniq (h : Pm n p) {m m' k k' : Nat} (hm : m ∈ reps p) (hm' : m' ∈ reps p) (e : itr p m k = itr p m' k') : m = m' := by
  obtain ⟨h1, h2⟩ := (mem_reps h).1 hm
  obtain ⟨h3, h4⟩ := (mem_reps h).1 hm'
  obtain ⟨t, ht⟩ := itr_back h h1 k
  rw [e, ← itr_add] at ht
  have := min_uniq h h3 h4 (k := k' + t) (by rw [ht]; exact h2)
  rw [← ht, this]
/-- Rows over the values of a map. -/
theorem fib_sum {α β : Type} [DecidableEq β] (φ : α → β) : ∀ (L' : List β) (L : List α), L'.Nodup → (∀ x ∈ L, φ x ∈ L') → L.length = (L'.map fun y => L.countP fun x => decide (φ x = y)).sum
  | [], L, _, h => by
    cases L with
    | nil => simp
    | cons x _ => cases h x List.mem_cons_self
  | y :: L', L, nd, h => by
    have nd' := List.nodup_cons.1 nd
    have h1 := List.length_eq_countP_add_countP (fun x => decide (φ x = y)) (l := L)
    have ih := fib_sum φ L' (L.filter fun x => decide (¬ decide (φ x = y) = true)) nd'.2 (fun x hx => by
      obtain ⟨m, hx⟩ := List.mem_filter.1 hx
      rcases List.mem_cons.1 (h x m) with e | e
      · simp [e] at hx
      · exact e)
    have e2 : (L'.map fun z => (L.filter fun x => decide (¬ decide (φ x = y) = true)).countP fun x => decide (φ x = z)) = L'.map fun z => L.countP fun x => decide (φ x = z) := List.map_congr_left fun z hz => by
      rw [List.countP_filter]
      refine List.countP_congr fun x _ => ?_
      simp only [Bool.and_eq_true, decide_eq_true_eq]
      exact ⟨fun h => h.1, fun e => ⟨e, fun e2 => nd'.1 (by rw [← e2, e]; exact hz)⟩⟩
    rw [e2, ← List.countP_eq_length_filter] at ih
    rw [h1, ih, List.map_cons, List.sum_cons]
/-- The least point of a point's cycle. -/
noncomputable def repF (p : List Int) (i : Nat) : Nat := @dite _ (∃ m, m ∈ reps p ∧ ∃ k, k < clen p m ∧ itr p m k = i) (Classical.propDecidable _) (fun h => h.choose) fun _ => 0
theorem repF_ok (h : Pm n p) {i : Nat} (hi : i < n) : repF p i ∈ reps p ∧ ∃ k, k < clen p (repF p i) ∧ itr p (repF p i) k = i := by
  have hx := rep_ex h hi
  unfold repF
  rw [dif_pos hx]
  exact hx.choose_spec
theorem map_nodup {α β : Type} {f : α → β} : ∀ {l : List α}, l.Nodup → (∀ a ∈ l, ∀ b ∈ l, f a = f b → a = b) → (l.map f).Nodup
  | [], _, _ => List.nodup_nil
  | a :: l, nd, h => by
    have nd' := List.nodup_cons.1 nd
    rw [List.map_cons, List.nodup_cons]
    refine ⟨fun hm => ?_, map_nodup nd'.2 fun x hx y hy => h x (List.mem_cons_of_mem _ hx) y (List.mem_cons_of_mem _ hy)⟩
    obtain ⟨b, hb, e⟩ := List.mem_map.1 hm
    have := h b (List.mem_cons_of_mem _ hb) a List.mem_cons_self e
    exact nd'.1 (this ▸ hb)
theorem cyc_rows (h : Pm n p) {m : Nat} (hm : m ∈ reps p) : ((List.range (clen p m)).map (itr p m)).Nodup := by
  have h1 := ((mem_reps h).1 hm).1
  exact map_nodup List.nodup_range fun a ha b hb e => cyc_inj h h1 (List.mem_range.1 ha) (List.mem_range.1 hb) e
/-- The points over one least point. -/
theorem fib_rep (h : Pm n p) {m : Nat} (hm : m ∈ reps p) (P : Nat → Bool) (hP : ∀ k, P (itr p m k) = true) : ((List.range n).filter P).countP (fun i => decide (repF p i = m)) = clen p m := by
  have h1 := ((mem_reps h).1 hm).1
  have e : List.Perm (((List.range n).filter P).filter (fun i => decide (repF p i = m))) ((List.range (clen p m)).map (itr p m)) := by
    refine (List.perm_ext_iff_of_nodup ((List.nodup_range.filter _).filter _) (cyc_rows h hm)).2 fun i => ?_
    rw [List.mem_filter, List.mem_filter, List.mem_range, List.mem_map]
    constructor
    · rintro ⟨⟨hi, _⟩, hr⟩
      obtain ⟨_, k, hk, ek⟩ := repF_ok h hi
      rw [of_decide_eq_true hr] at hk ek
      exact ⟨k, List.mem_range.2 hk, ek⟩
    · rintro ⟨k, hk, rfl⟩
      have hi := itr_lt h h1 k
      obtain ⟨hr, k', hk', ek⟩ := repF_ok h hi
      exact ⟨⟨hi, hP k⟩, decide_eq_true (rep_uniq h hr hm ek)⟩
  rw [List.countP_eq_length_filter, e.length_eq, List.length_map, List.length_range]
theorem lens_sum (h : Pm n p) : (lens p).sum = n := by
  have := fib_sum (repF p) (reps p) ((List.range n).filter fun _ => true) (reps_nodup p) fun i hi => by
    rw [List.mem_filter, List.mem_range] at hi
    exact (repF_ok h hi.1).1
  rw [List.map_congr_left fun m hm => fib_rep h hm (fun _ => true) fun _ => rfl] at this
  have e : ((List.range n).filter fun _ => true) = List.range n := List.filter_eq_self.2 fun _ _ => rfl
  rw [e, List.length_range] at this
  exact this.symm
theorem lens_pos {L : Nat} (hL : L ∈ lens p) : 0 < L := by
  obtain ⟨m, _, rfl⟩ := List.mem_map.1 hL
  exact clen_pos _ _
end
end Go.Pm
end
/- The lengths of the longer cycles, and the points that stay; plain. -/
section
namespace Go.Pm
set_option linter.unusedVariables false
theorem filt_len : ∀ {l : List Nat}, (∀ x ∈ l, 1 ≤ x) → l.sum = (l.filter fun x => decide (1 < x)).sum + l.count 1
  | [], _ => rfl
  | x :: l, h => by
    have ih := filt_len (l := l) fun y hy => h y (List.mem_cons_of_mem _ hy)
    have hx := h x List.mem_cons_self
    rw [List.sum_cons, List.count_cons, List.filter_cons]
    by_cases e : 1 < x
    · rw [if_pos (decide_eq_true e), List.sum_cons, if_neg (by simp; omega)]; omega
    · rw [if_neg (by simp; omega), if_pos (by simp; omega)]; omega
variable {n : Nat} {p : List Int}
theorem cycs_lens (p : List Int) : (cycs p).map List.length = (lens p).filter fun x => decide (1 < x) := by
  unfold cycs lens reps
  rw [List.map_map, List.filter_map, List.filter_filter]
  have e : (List.length ∘ cyc p) = clen p := by funext i; exact cyc_length p i
  rw [e]
  congr 1
  refine List.filter_congr fun i _ => ?_
  simp only [Function.comp_apply]
  exact Bool.and_comm _ _
theorem ones_sum (h : Pm n p) : ((cycs p).map List.length).sum + (lens p).count 1 = n := by
  rw [cycs_lens, ← filt_len fun x hx => lens_pos hx, lens_sum h]
end Go.Pm
end
/- The program's ParseImages, exactly. -/
section
namespace Go.Proofs.YtpffmolibjimgaaGreatDoor
open Go.Av
set_option linter.unusedSimpArgs false
set_option linter.unusedVariables false
attribute [local irreducible] AWP CallG Ob Br BrP Go.Av.Sub endQ AOps OpV AC thenA blkA opsVC opVC withA withArgs opsQ opQ CallQ withA2 withArgs2
/-- What ParseImages answers. -/
def imP (s : ByteArray) : List Int × Bool :=
  if 200 < s.size then ([], false)
  else if (rnsP (slP s ⟨#[32]⟩)).2 = true ∧ isPerm (rnsP (slP s ⟨#[32]⟩)).1 then ((rnsP (slP s ⟨#[32]⟩)).1, true) else ([], false)
theorem implParseImages_ok (s : ByteArray) (hs : s.size ≤ 9223372036854775807) : AC Tryz.prog 18 [.v (.string (s))] Hp.emp (fun _ => false) (retV (pcsA (imP s))) := by
  by_cases h200 : 200 < s.size
  · have e0 : imP s = ([], false) := if_pos h200
    rw [e0]
    refine ac_of_awp (N := ⟨_, fun _ => false, fun _ _ => rfl, true⟩) Tryz.func18 rfl (by kernel_rfl) Tryz.ntmps18 (by simp) ?_
    simp only [argsFr, List.zipIdx_cons, List.zipIdx_nil, go_sem]
    repeat' (first | refine awp_seqK fun K hK => ?_ | (refine awp_regionK 2097469 rfl ?_; simp only [List.map_cons, List.map_nil]; simp (maxSteps := 1000000) (dsimp := false) (implicitDefEqProofs := false) (disch := omega) only [wrap64, go_sem]) | (refine awp_regionQK 2097469 (by kernel_rfl) (by kernel_rfl) (by kernel_rfl) ?_; simp only [List.map_cons, List.map_nil]; simp (maxSteps := 1000000) (dsimp := false) (implicitDefEqProofs := false) (disch := omega) only [wrap64, go_sem]) | refine awp_block ?_ | (refine awp_skip ?_; simp only [go_sem]) | (refine awp_exit ?_; simp only [go_sem]) | (refine awp_ret ?_; try simp only [go_sem]) | (refine awp_condP rfl ?_; try simp only [go_sem]) | (refine BrP.mk (fun h => ?_) (fun h => ?_) <;> try simp (dsimp := false) (disch := omega) only [wrap64]) | (refine Br.mk (fun h => ?_) (fun h => ?_) <;> try simp (dsimp := false) (disch := omega) only [wrap64]) | refine Ob.mk (by first | omega | (intro _ _; rfl) | trivial | (intros; trivial) | assumption | (intro i hi; have h0 : i = 0 := (by omega); subst h0; first | rfl | trivial) | (intro i hi; have h0 : i = 0 ∨ i = 1 := (by omega); rcases h0 with rfl | rfl <;> rfl) | (intro i hi; have h0 : i = 0 ∨ i = 1 ∨ i = 2 := (by omega); rcases h0 with rfl | rfl | rfl <;> rfl)) ?_ | apply_assumption -exfalso -symm)
    all_goals (first | (show endQ _ _ _ _ _ _ _; (repeat (rename (∀ (A : Fr) (H : Hp), AWP _ _ _ _ A H → _) => hK; clear hK)); (repeat (rename (Fr → Hp → Prop) => K; clear K))) | (show Exists _; (repeat (rename (∀ (A : Fr) (H : Hp), AWP _ _ _ _ A H → _) => hK; clear hK)); (repeat (rename (Fr → Hp → Prop) => K; clear K))) | skip)
    all_goals first | omega | exact end_T2 rfl (by decide) rfl rfl .nil (.refl _)
  have hss := split_ok s ⟨#[32]⟩ (by omega) (by decide)
  have hsl := slP_le s ⟨#[32]⟩ (by decide)
  have hsr := slP_row s ⟨#[32]⟩
  have e0 : imP s = if (rnsP (slP s ⟨#[32]⟩)).2 = true ∧ isPerm (rnsP (slP s ⟨#[32]⟩)).1 then ((rnsP (slP s ⟨#[32]⟩)).1, true) else ([], false) := if_neg h200
  rw [e0]
  obtain ⟨ws, ews⟩ : ∃ ws, ws = slP s ⟨#[32]⟩ := ⟨_, rfl⟩
  rw [← ews] at hss hsl hsr ⊢
  have hrn := readNumbers_ok ws (by omega) (fun j => by have := hsr j; omega)
  obtain ⟨⟨xs, b⟩, exb⟩ : ∃ z, z = rnsP ws := ⟨_, rfl⟩
  rw [← exb] at hrn ⊢
  dsimp only at hrn ⊢
  have hrn := Hold.mk hrn
  have hss := Hold.mk hss
  have hsr := Hold.mk hsr
  refine ac_of_awp (N := ⟨_, fun _ => false, fun _ _ => rfl, true⟩) Tryz.func18 rfl (by kernel_rfl) Tryz.ntmps18 (by simp) ?_
  simp only [argsFr, List.zipIdx_cons, List.zipIdx_nil, go_sem]
  repeat' (first | refine awp_seqK fun K hK => ?_ | (refine awp_regionK 2097469 rfl ?_; simp only [List.map_cons, List.map_nil]; simp (maxSteps := 1000000) (dsimp := false) (implicitDefEqProofs := false) (disch := omega) only [wrap64, go_sem]) | (refine awp_regionQK 2097469 (by kernel_rfl) (by kernel_rfl) (by kernel_rfl) ?_; simp only [List.map_cons, List.map_nil]; simp (maxSteps := 1000000) (dsimp := false) (implicitDefEqProofs := false) (disch := omega) only [wrap64, go_sem]) | refine awp_block ?_ | (refine awp_skip ?_; simp only [go_sem]) | (refine awp_exit ?_; simp only [go_sem]) | (refine awp_ret ?_; try simp only [go_sem]) | (refine awp_condP rfl ?_; try simp only [go_sem]) | (refine BrP.mk (fun h => ?_) (fun h => ?_) <;> try simp (dsimp := false) (disch := omega) only [wrap64]) | (refine Br.mk (fun h => ?_) (fun h => ?_) <;> try simp (dsimp := false) (disch := omega) only [wrap64]) | refine Ob.mk (by first | omega | (intro _ _; rfl) | trivial | (intros; trivial) | assumption | (intro i hi; have h0 : i = 0 := (by omega); subst h0; first | rfl | trivial) | (intro i hi; have h0 : i = 0 ∨ i = 1 := (by omega); rcases h0 with rfl | rfl <;> rfl) | (intro i hi; have h0 : i = 0 ∨ i = 1 ∨ i = 2 := (by omega); rcases h0 with rfl | rfl | rfl <;> rfl)) ?_ | ((first | (refine cR (hac := hss.h) (hK := ?_)) | (refine cQR (hac := hss.h) (hK := ?_)) | ((first | refine atF (f := 49) ?_ | refine atQ (f := 49) ?_); (refine cR (hac := hrn.h) (hK := ?_) (hs := pcsA_scrub (xs, b) _))) | ((first | refine atF (f := 39) ?_ | refine atQ (f := 39) ?_); (first | (refine cV (hac := implIsPermutation_ok xs) (hK := ?_)) | (refine cQV (hac := implIsPermutation_ok xs) (hK := ?_))))); simp (maxSteps := 1000000) (dsimp := false) (implicitDefEqProofs := false) (disch := omega) only [wrap64, go_sem]) | apply_assumption -exfalso -symm)
  all_goals (first | (show endQ _ _ _ _ _ _ _; (repeat (rename (∀ (A : Fr) (H : Hp), AWP _ _ _ _ A H → _) => hK; clear hK)); (repeat (rename (Fr → Hp → Prop) => K; clear K))) | (show Exists _; (repeat (rename (∀ (A : Fr) (H : Hp), AWP _ _ _ _ A H → _) => hK; clear hK)); (repeat (rename (Fr → Hp → Prop) => K; clear K))) | skip)
  · exact absurd (by omega) h200
  · rw [if_pos ⟨by assumption, by assumption⟩]
    exact end_T2 rfl (by decide) rfl rfl (.refl _) (.refl _)
  · rw [if_neg fun h2 => absurd h2.2 (by assumption)]
    exact end_T2 rfl (by decide) rfl rfl .nil (.refl _)
  · rw [if_neg fun h2 => Bool.noConfusion (h2.1.symm.trans ‹b = false›)]
    exact end_T2 rfl (by decide) rfl rfl .nil (.refl _)
/-- The texts of numbers, read again. -/
theorem rn_all : ∀ i : Fin 1000, rnP (fmS i.val) = some (i.val : Int) ∧ okI (fmS i.val) ∧ pvP (fmS i.val) = i.val := by decide +kernel
theorem fm_ne : ∀ i : Fin 1000, (1 ≤ (fmS i.val).size ∧ (fmS i.val).size ≤ 3) ∧ ∀ j : Fin 3, j.val < (fmS i.val).size → 48 ≤ ((fmS i.val).data.toList.getD j.val 0).toNat ∧ ((fmS i.val).data.toList.getD j.val 0).toNat ≤ 57 := by decide +kernel
end Go.Proofs.YtpffmolibjimgaaGreatDoor
end
