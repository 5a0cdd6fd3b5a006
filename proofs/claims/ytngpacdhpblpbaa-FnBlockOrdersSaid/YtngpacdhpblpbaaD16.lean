import Derived.Test.YtngpacdhpblpbaaD15
import Derived.Test.YtngpacdhpblpbaaD5
import Derived.Test.YtngpacdhpblpbaaD4
import Derived.Test.YtngpacdhpblpbaaD11
/- Partitions and block systems, the program: the numbers of blocks. -/
section
namespace Go.Proofs.Ytngpacdhpblpbaa
open Go.Av
set_option linter.unusedSimpArgs false
set_option linter.unusedVariables false
attribute [local irreducible] AWP CallG Ob Br BrP Go.Av.Sub endQ AOps OpV AC thenA blkA opsVC opVC withA withArgs opsQ opQ CallQ withA2 withArgs2
open Go.Pm (Pm ptI partI IsPart ixP Rsp rspI actP img invp)
/-- Labels when what seenP lists has been met. -/
structure CL (n : Nat) (bs : List (List Int)) (i k : Nat) (L : List Int) : Prop where
  len : L.length = n
  past : ∀ j, j < i → blkI n bs j
  nd : (seenP bs i k).Nodup
  hit : ∀ x : Nat, (x : Int) ∈ seenP bs i k → ∃ j, j < bs.length ∧ (x : Int) ∈ bs.getD j [] ∧ L.getD x 0 = (j : Int)
  miss : ∀ x : Nat, x < n → (x : Int) ∉ seenP bs i k → L.getD x 0 = -1
noncomputable instance (n : Nat) (bs : List (List Int)) : Decidable (IsPart n bs) := Classical.propDecidable _
theorem rep_neg {n x : Nat} (hx : x < n) : (rep [-1] n).getD x 0 = -1 := by
  have : rep [-1] n = List.replicate n (-1) := by
    unfold rep
    induction n with
    | zero => rfl
    | succ n ih =>
      by_cases h : x < n
      · rw [List.replicate_succ, List.flatten_cons, ih h]; rfl
      · rw [List.replicate_succ, List.flatten_cons]
        have : ∀ m : Nat, (List.replicate m [(-1 : Int)]).flatten = List.replicate m (-1) := fun m => by
          induction m with
          | zero => rfl
          | succ m ih => rw [List.replicate_succ, List.flatten_cons, ih]; rfl
        rw [this]; rfl
  rw [this, List.getD_eq_getElem?_getD, List.getElem?_replicate, if_pos hx]; rfl
section
variable {n i k : Nat} {bs : List (List Int)} {L : List Int}
theorem CL.zero (n : Nat) (bs : List (List Int)) : CL n bs 0 0 (rep [-1] n) :=
  ⟨by rw [rep_length]; simp, fun _ h => absurd h (Nat.not_lt_zero _), by simp [seenP], fun x h => by simp [seenP] at h, fun x hx _ => rep_neg hx⟩
theorem CL.step (h : CL n bs i k L) (hi : i < bs.length) (hk : k < (bs.getD i []).length) {x : Nat} (e : (bs.getD i []).getD k 0 = (x : Int)) (hx : x < n) (hm : ¬ 0 ≤ L.getD x 0) : CL n bs i (k + 1) (L.set x (i : Int)) := by
  have hns : (x : Int) ∉ seenP bs i k := fun hc => by
    obtain ⟨j, _, _, e2⟩ := h.hit x hc
    omega
  have hlx : x < L.length := by rw [h.len]; exact hx
  have hmem : (x : Int) ∈ bs.getD i [] := by rw [← e]; exact Go.Pm.row_mem hk
  refine ⟨by rw [List.length_set]; exact h.len, h.past, ?_, fun y hy => ?_, fun y hy hn => ?_⟩
  · rw [seenP_succ hk, e, List.nodup_append]
    exact ⟨h.nd, by simp, fun a ha b hb e2 => by rw [List.mem_singleton] at hb; subst hb; subst e2; exact hns ha⟩
  · rw [getD_set hlx]
    rw [seenP_succ hk, e, List.mem_append, List.mem_singleton] at hy
    split
    · rename_i e2; subst e2; exact ⟨i, hi, hmem, rfl⟩
    · rename_i e2
      rcases hy with hy | hy
      · exact h.hit y hy
      · exact absurd (by omega) e2
  · rw [seenP_succ hk, e, List.mem_append, List.mem_singleton] at hn
    rw [getD_set hlx, if_neg (fun e2 => hn (.inr (by rw [e2])))]
    exact h.miss y hy fun hc => hn (.inl hc)
theorem CL.twice (h : CL n bs i k L) (hi : i < bs.length) (hk : k < (bs.getD i []).length) (hr : 0 ≤ (bs.getD i []).getD k 0 ∧ (bs.getD i []).getD k 0 ≤ (n : Int) - 1) (hm : 0 ≤ L.getD ((bs.getD i []).getD k 0).toNat 0) : ¬ IsPart n bs := fun hp => by
  obtain ⟨x, e⟩ : ∃ x : Nat, (bs.getD i []).getD k 0 = (x : Int) := ⟨((bs.getD i []).getD k 0).toNat, by omega⟩
  rw [e, Int.toNat_natCast] at hm
  have hs : (x : Int) ∈ seenP bs i k := Classical.byContradiction fun hc => by
    have := h.miss x (by omega) hc
    omega
  obtain ⟨R, eR⟩ := seenP_pre hi hk
  have hq := hp.nodup
  rw [eR, List.nodup_append, e] at hq
  exact hq.2.2 _ hs _ (List.mem_cons_self ..) rfl
theorem CL.next (h : CL n bs i (bs.getD i []).length L) (hi : i < bs.length) (hb : blkI n bs i) : CL n bs (i + 1) 0 L := by
  have e : seenP bs (i + 1) 0 = seenP bs i (bs.getD i []).length := by rw [seenP_next hi, seenP_zero]
  refine ⟨h.len, fun j hj => ?_, by rw [e]; exact h.nd, by rw [e]; exact h.hit, by rw [e]; exact h.miss⟩
  by_cases e2 : j = i
  · subst e2; exact hb
  · exact h.past j (by omega)
theorem CL.flat (h : CL n bs bs.length 0 L) : seenP bs bs.length 0 = bs.flatten := by rw [seenP_zero, List.take_length]
theorem CL.iff (h : CL n bs bs.length 0 L) : ¬ (-1 : Int) ∈ L ↔ IsPart n bs := by
  have hf := h.flat
  constructor
  · intro hc
    refine Go.Pm.partI_iff.1 ⟨h.past, by have := h.nd; rwa [hf] at this, ?_⟩
    have h1 := seenP_len (n := n) (by omega) (Nat.le_refl _) h.past (.inr rfl) h.nd
    have h2 := Go.Plain.nodup_le bs.flatten ((List.range n).map fun y : Nat => (y : Int)) (List.pairwise_map.2 (List.nodup_range.imp fun h e => h (by omega))) fun v hv => by
      obtain ⟨y, hy, rfl⟩ := List.mem_map.1 hv
      have hy := List.mem_range.1 hy
      refine Classical.byContradiction fun hn => ?_
      have e := h.miss y hy (by rw [hf]; exact hn)
      exact hc (by rw [← e]; exact Go.Pm.row_mem (by rw [h.len]; exact hy))
    rw [List.length_map, List.length_range] at h2
    rw [hf] at h1
    omega
  · intro hp hc
    obtain ⟨x, hx, e⟩ := List.getElem_of_mem hc
    have hxn : x < n := by rw [← h.len]; exact hx
    obtain ⟨j, hj, hm, _⟩ := Go.Pm.ixP_spec hp hxn
    obtain ⟨j2, _, _, e2⟩ := h.hit x (by rw [hf]; exact List.mem_flatten.2 ⟨_, Go.Pm.getD_mem (b := []) hj, hm⟩)
    rw [List.getD_eq_getElem?_getD, List.getElem?_eq_getElem hx] at e2
    have e2 : L[x] = (j2 : Int) := e2
    omega
theorem CL.ix (h : CL n bs bs.length 0 L) (hp : IsPart n bs) : L = ixP n bs := by
  have hf := h.flat
  refine eq_of_getD (by rw [h.len, Go.Pm.ixP_len]) fun x hx => ?_
  obtain ⟨j, hj, hm, _⟩ := Go.Pm.ixP_spec hp (x := x) (by rw [← h.len]; exact hx)
  obtain ⟨j2, hj2, hm2, e2⟩ := h.hit x (by rw [hf]; exact List.mem_flatten.2 ⟨_, Go.Pm.getD_mem (b := []) hj, hm⟩)
  rw [e2, Go.Pm.ixP_mem hp hj2 hm2]
end
theorem end_clNo {N : Cx} {A : Fr} {H : Hp} {fn : Func} {t u : Tmp} {n : Nat} {bs : List (List Int)} (hr : fn.results.toList = [.tmp t, .tmp u]) (htu : t ≠ u) (h4 : A.get t = some (.v (.slice none 0 0))) (h5 : A.get u = some (.v (.bool false))) (hn : ¬ IsPart n bs) :
    endQ Try.prog N fn (postX fun r => ∃ xs, r = .tup 2 (vecF [ints xs, .v (.bool (decide (IsPart n bs)))]) ∧ (IsPart n bs → xs = ixP n bs)) .ret A H :=
  end_X2 hr htu h4 h5 .nil (.refl _) ⟨[], by rw [decide_eq_false hn]; rfl, fun h => absurd h hn⟩
theorem classOf_ok (n : Nat) (bs : List (List Int)) (hn : 1 ≤ n ∧ n ≤ 20) (hl : bs.length ≤ 1000000) (hb : ∀ j, (bs.getD j []).length ≤ 1000000) : AC Try.prog 97 [.v (.int .i64 ((n : Nat))), intss bs] Hp.emp (fun _ => false) (postX fun r => ∃ xs, r = .tup 2 (vecF [ints xs, .v (.bool (decide (IsPart n bs)))]) ∧ (IsPart n bs → xs = ixP n bs)) := by
  have hb := Hold.mk hb
  refine ac_of_awp (N := ⟨_, fun _ => false, fun _ _ => rfl⟩) Try.func97 rfl (by kernel_rfl) Try.ntmps97 (by simp) ?_
  simp only [argsFr, List.zipIdx_cons, List.zipIdx_nil, go_sem]
  repeat' (first | refine awp_seqK fun K hK => ?_ | (refine awp_regionK 2361183275519683315699 rfl ?_; simp only [List.map_cons, List.map_nil]; simp (maxSteps := 1000000) (dsimp := false) (implicitDefEqProofs := false) (disch := omega) only [wrap64, go_sem]) | (refine awp_regionQK 2361183275519683315699 (by kernel_rfl) (by kernel_rfl) (by kernel_rfl) ?_; simp only [List.map_cons, List.map_nil]; simp (maxSteps := 1000000) (dsimp := false) (implicitDefEqProofs := false) (disch := omega) only [wrap64, go_sem]) | refine awp_block ?_ | (refine awp_skip ?_; simp only [go_sem]) | (refine awp_exit ?_; simp only [go_sem]) | (refine awp_ret ?_; try simp only [go_sem]) | (refine awp_condP rfl ?_; try simp only [go_sem]) | (refine BrP.mk (fun h => ?_) (fun h => ?_) <;> try simp (dsimp := false) (disch := omega) only [wrap64]) | (refine Br.mk (fun h => ?_) (fun h => ?_) <;> try simp (dsimp := false) (disch := omega) only [wrap64]) | refine Ob.mk (by first | omega | (intro _ _; rfl) | trivial | (intros; trivial) | assumption | (intro i hi; have h0 : i = 0 := (by omega); subst h0; first | rfl | trivial) | (intro i hi; have h0 : i = 0 ∨ i = 1 := (by omega); rcases h0 with rfl | rfl <;> rfl) | (intro i hi; have h0 : i = 0 ∨ i = 1 ∨ i = 2 := (by omega); rcases h0 with rfl | rfl | rfl <;> rfl)) ?_ | ((first | ((first | refine atF (f := 149) ?_ | refine atQ (f := 149) ?_); (first | (refine cI (hac := sliceRepeat_ok [-1] n (by simp) (by omega) (by simp; omega) 13) (hK := ?_)) | (refine cQI (hac := sliceRepeat_ok [-1] n (by simp) (by omega) (by simp; omega) 13) (hK := ?_))))); simp (maxSteps := 1000000) (dsimp := false) (implicitDefEqProofs := false) (disch := omega) only [wrap64, go_sem]) | apply_assumption -exfalso -symm)
  all_goals (first | (show endQ _ _ _ _ _ _ _; (repeat (rename (∀ (A : Fr) (H : Hp), AWP _ _ _ _ A H → _) => hK; clear hK)); (repeat (rename (Fr → Hp → Prop) => K; clear K))) | (show Exists _; (repeat (rename (∀ (A : Fr) (H : Hp), AWP _ _ _ _ A H → _) => hK; clear hK)); (repeat (rename (Fr → Hp → Prop) => K; clear K))) | skip)
  have hrl : (rep [-1] n).length = n := by rw [rep_length]; simp
  refine awp_loop (ι := Nat × List Int) (fun z => [(16, .v (.int .i64 ((z.1 : Nat)))), (15, .v (.int .i64 (bs.length))), (14, .list false 1 (bs).length (cM ints [] (bs))), (6, .own 13 0 1 n), (0, .v (.int .i64 ((n : Nat)))), (1, .list false 1 (bs).length (cM ints [] (bs)))]) (fun z => Hp.emp.upd 13 (.cells n (cM iv 0 z.2))) (fun z => z.1 ≤ bs.length ∧ Hold (CL n bs z.1 0 z.2)) (fun z => bs.length - z.1) (0, rep [-1] n) ⟨Nat.zero_le _, ⟨.zero n bs⟩⟩ (by rw [hrl]; exact Sub.toL (by simp only [go_sem] <;> first | trivial | (simp only [Option.some.injEq, AV.v.injEq, AV.own.injEq, AV.list.injEq, Value.int.injEq, Value.bool.injEq, true_and, and_true]; first | omega | (simp; done)) | (simp; done) | (simp; omega)) (by (repeat' (first | exact Hp.le_emp _ | exact Hp.le_refl _ | refine Hp.le_upd ?_ ?_)); all_goals (first | rfl | (simp only [go_sem]; first | rfl | (refine cellsE ?_ ?_ <;> (simp)) | (simp))))) ?_
  rintro ⟨i, L⟩ ⟨hi, hv⟩
  dsimp only at hi hv ⊢
  have hbi := hb.h i
  have hpv : 0 < i → 0 < (bs.getD ((i : Int) - 1).toNat []).length := fun h0 => by
    rw [show ((i : Int) - 1).toNat = i - 1 by omega]
    exact List.length_pos_iff.2 (hv.h.past (i - 1) (by omega)).1
  repeat' (first | refine awp_seqK fun K hK => ?_ | (refine awp_regionK 2361183275519683315699 rfl ?_; simp only [List.map_cons, List.map_nil]; simp (maxSteps := 1000000) (dsimp := false) (implicitDefEqProofs := false) (disch := omega) only [wrap64, go_sem, tn0]) | (refine awp_regionQK 2361183275519683315699 (by kernel_rfl) (by kernel_rfl) (by kernel_rfl) ?_; simp only [List.map_cons, List.map_nil]; simp (maxSteps := 1000000) (dsimp := false) (implicitDefEqProofs := false) (disch := omega) only [wrap64, go_sem, tn0]) | refine awp_block ?_ | (refine awp_skip ?_; simp only [go_sem, tn0]) | (refine awp_exit ?_; simp only [go_sem, tn0]) | (refine awp_ret ?_; try simp only [go_sem, tn0]) | (refine awp_condP rfl ?_; try simp only [go_sem, tn0]) | (refine BrP.mk (fun h => ?_) (fun h => ?_) <;> try simp (dsimp := false) (disch := omega) only [wrap64]) | (refine Br.mk (fun h => ?_) (fun h => ?_) <;> try simp (dsimp := false) (disch := omega) only [wrap64]) | refine Ob.mk (by first | omega | (intro _ _; rfl) | trivial | (intros; trivial) | assumption | (intro i hi; have h0 : i = 0 := (by omega); subst h0; first | rfl | trivial) | (intro i hi; have h0 : i = 0 ∨ i = 1 := (by omega); rcases h0 with rfl | rfl <;> rfl) | (intro i hi; have h0 : i = 0 ∨ i = 1 ∨ i = 2 := (by omega); rcases h0 with rfl | rfl | rfl <;> rfl)) ?_ | apply_assumption -exfalso -symm)
  all_goals (first | (show endQ _ _ _ _ _ _ _; (repeat (rename (∀ (A : Fr) (H : Hp), AWP _ _ _ _ A H → _) => hK; clear hK)); (repeat (rename (Fr → Hp → Prop) => K; clear K))) | (show Exists _; (repeat (rename (∀ (A : Fr) (H : Hp), AWP _ _ _ _ A H → _) => hK; clear hK)); (repeat (rename (Fr → Hp → Prop) => K; clear K))) | skip)
  · refine end_clNo rfl (by decide) rfl rfl fun hp => ?_
    have hc := Go.Pm.partI_iff.2 hp
    exact (hc.1 i (by omega)).1 (List.length_eq_zero_iff.1 (by omega))
  · refine end_clNo rfl (by decide) rfl rfl fun hp => ?_
    have hc := Go.Pm.partI_iff.2 hp
    have q := (hc.1 i (by omega)).2.2 (by omega)
    rw [show i - 1 = ((i : Int) - 1).toNat by omega] at q
    omega
  iterate 2
    · have hfst : Hold (0 < i → (bs.getD (i - 1) []).getD 0 0 < (bs.getD i []).getD 0 0) := ⟨fun h0 => by
        rw [show i - 1 = ((i : Int) - 1).toNat by omega]; omega⟩
      refine awp_loop (ι := Nat × List Int) (fun z => [(43, .v (.int .i64 ((z.1 : Nat)))), (42, .v (.int .i64 ((bs.getD i []).length))), (41, .list false 1 (bs.getD i []).length (cM iv 0 (bs.getD i []))), (8, .list false 1 (bs.getD i []).length (cM iv 0 (bs.getD i []))), (7, .v (.int .i64 ((i : Nat)))), (16, .v (.int .i64 ((i : Nat)))), (15, .v (.int .i64 (bs.length))), (14, .list false 1 (bs).length (cM ints [] (bs))), (6, .own 13 0 1 n), (0, .v (.int .i64 ((n : Nat)))), (1, .list false 1 (bs).length (cM ints [] (bs)))]) (fun z => Hp.emp.upd 13 (.cells n (cM iv 0 z.2))) (fun z => z.1 ≤ (bs.getD i []).length ∧ Hold (CL n bs i z.1 z.2) ∧ Hold (∀ k, k < z.1 → (0 ≤ (bs.getD i []).getD k 0 ∧ (bs.getD i []).getD k 0 ≤ (n : Int) - 1) ∧ (0 < k → (bs.getD i []).getD (k - 1) 0 < (bs.getD i []).getD k 0))) (fun z => (bs.getD i []).length - z.1) (0, L) ⟨Nat.zero_le _, hv, ⟨fun k h => absurd h (Nat.not_lt_zero _)⟩⟩ (Sub.toL (by simp only [go_sem] <;> first | trivial | (simp only [Option.some.injEq, AV.v.injEq, AV.own.injEq, AV.list.injEq, Value.int.injEq, Value.bool.injEq, true_and, and_true]; first | omega | (simp; done)) | (simp; done) | (simp; omega)) (Hp.le_refl _)) ?_
      clear hv L
      rintro ⟨k, L⟩ ⟨hk, hv, hw⟩
      dsimp only at hk hv hw ⊢
      have hll := hv.h.len
      repeat' (first | refine awp_seqK fun K hK => ?_ | (refine awp_regionK 2361183275519683315699 rfl ?_; simp only [List.map_cons, List.map_nil]; simp (maxSteps := 1000000) (dsimp := false) (implicitDefEqProofs := false) (disch := omega) only [wrap64, go_sem]) | (refine awp_regionQK 2361183275519683315699 (by kernel_rfl) (by kernel_rfl) (by kernel_rfl) ?_; simp only [List.map_cons, List.map_nil]; simp (maxSteps := 1000000) (dsimp := false) (implicitDefEqProofs := false) (disch := omega) only [wrap64, go_sem]) | refine awp_block ?_ | (refine awp_skip ?_; simp only [go_sem]) | (refine awp_exit ?_; simp only [go_sem]) | (refine awp_ret ?_; try simp only [go_sem]) | (refine awp_condP rfl ?_; try simp only [go_sem]) | (refine BrP.mk (fun h => ?_) (fun h => ?_) <;> try simp (dsimp := false) (disch := omega) only [wrap64]) | (refine Br.mk (fun h => ?_) (fun h => ?_) <;> try simp (dsimp := false) (disch := omega) only [wrap64]) | refine Ob.mk (by first | omega | (intro _ _; rfl) | trivial | (intros; trivial) | assumption | (intro i hi; have h0 : i = 0 := (by omega); subst h0; first | rfl | trivial) | (intro i hi; have h0 : i = 0 ∨ i = 1 := (by omega); rcases h0 with rfl | rfl <;> rfl) | (intro i hi; have h0 : i = 0 ∨ i = 1 ∨ i = 2 := (by omega); rcases h0 with rfl | rfl | rfl <;> rfl)) ?_ | ((first | ((first | refine atF (f := 92) ?_ | refine atQ (f := 92) ?_); (first | (refine cV (hac := isPoint_ok (n : Int) _ (by omega)) (hK := ?_)) | (refine cQV (hac := isPoint_ok (n : Int) _ (by omega)) (hK := ?_))))); simp (maxSteps := 1000000) (dsimp := false) (implicitDefEqProofs := false) (disch := omega) only [wrap64, go_sem]) | apply_assumption -exfalso -symm)
      all_goals (first | (show endQ _ _ _ _ _ _ _; (repeat (rename (∀ (A : Fr) (H : Hp), AWP _ _ _ _ A H → _) => hK; clear hK)); (repeat (rename (Fr → Hp → Prop) => K; clear K))) | (show Exists _; (repeat (rename (∀ (A : Fr) (H : Hp), AWP _ _ _ _ A H → _) => hK; clear hK)); (repeat (rename (Fr → Hp → Prop) => K; clear K))) | skip)
      · refine end_clNo rfl (by decide) rfl rfl fun hp => ?_
        have q := ((Go.Pm.partI_iff.2 hp).1 i (by omega)).2.1 k (by omega)
        have q2 := q.2 (by omega)
        rw [show k - 1 = ((k : Int) - 1).toNat by omega] at q2
        omega
      · exact end_clNo rfl (by decide) rfl rfl (hv.h.twice (by omega) (by omega) (by assumption) (by assumption))
      · obtain ⟨x, e⟩ : ∃ x : Nat, (bs.getD i []).getD k 0 = (x : Int) := ⟨((bs.getD i []).getD k 0).toNat, by omega⟩
        have hst := hv.h.step (by omega) (by omega) e (by omega) (by rw [show x = ((bs.getD i []).getD k 0).toNat by omega]; assumption)
        refine ⟨(k + 1, L.set x (i : Int)), ⟨by dsimp only; omega, ⟨hst⟩, ⟨fun j hj => ?_⟩⟩, by dsimp only; omega, ?_⟩
        · dsimp only at hj
          by_cases e2 : j = k
          · subst e2
            exact ⟨by assumption, fun _ => by rw [show j - 1 = ((j : Int) - 1).toNat by omega]; omega⟩
          · exact hw.h j (by omega)
        · dsimp only
          rw [show ((bs.getD i []).getD k 0).toNat = x by omega]
          exact Sub.toL (by simp only [go_sem] <;> first | trivial | (simp only [Option.some.injEq, AV.v.injEq, AV.own.injEq, AV.list.injEq, Value.int.injEq, Value.bool.injEq, true_and, and_true]; first | omega | (simp; done)) | (simp; done) | (simp; omega)) (by (repeat' (first | exact Hp.le_emp _ | exact Hp.le_refl _ | refine Hp.le_upd ?_ ?_)); all_goals (first | rfl | (simp only [go_sem]; first | rfl | (refine cellsE ?_ ?_ <;> (simp)) | (simp))))
      · exact end_clNo rfl (by decide) rfl rfl (hv.h.twice (by omega) (by omega) (by assumption) (by assumption))
      · obtain ⟨x, e⟩ : ∃ x : Nat, (bs.getD i []).getD k 0 = (x : Int) := ⟨((bs.getD i []).getD k 0).toNat, by omega⟩
        have hst := hv.h.step (by omega) (by omega) e (by omega) (by rw [show x = ((bs.getD i []).getD k 0).toNat by omega]; assumption)
        refine ⟨(k + 1, L.set x (i : Int)), ⟨by dsimp only; omega, ⟨hst⟩, ⟨fun j hj => ?_⟩⟩, by dsimp only; omega, ?_⟩
        · dsimp only at hj
          by_cases e2 : j = k
          · subst e2
            exact ⟨by assumption, fun _ => by omega⟩
          · exact hw.h j (by omega)
        · dsimp only
          rw [show ((bs.getD i []).getD k 0).toNat = x by omega]
          exact Sub.toL (by simp only [go_sem] <;> first | trivial | (simp only [Option.some.injEq, AV.v.injEq, AV.own.injEq, AV.list.injEq, Value.int.injEq, Value.bool.injEq, true_and, and_true]; first | omega | (simp; done)) | (simp; done) | (simp; omega)) (by (repeat' (first | exact Hp.le_emp _ | exact Hp.le_refl _ | refine Hp.le_upd ?_ ?_)); all_goals (first | rfl | (simp only [go_sem]; first | rfl | (refine cellsE ?_ ?_ <;> (simp)) | (simp))))
      · exact end_clNo rfl (by decide) rfl rfl fun hp => absurd (((Go.Pm.partI_iff.2 hp).1 i (by omega)).2.1 k (by omega)).1 (by assumption)
      · have ek : k = (bs.getD i []).length := by omega
        subst ek
        have hbk : blkI n bs i := ⟨fun e => by have : (bs.getD i []).length = 0 := (by rw [e]; rfl)
                                               omega, fun j hj => hw.h j hj, hfst.h⟩
        exact ⟨(i + 1, L), ⟨by dsimp only; omega, ⟨hv.h.next (by omega) hbk⟩⟩, by dsimp only; omega, Sub.toL (by simp only [go_sem] <;> first | trivial | (simp only [Option.some.injEq, AV.v.injEq, AV.own.injEq, AV.list.injEq, Value.int.injEq, Value.bool.injEq, true_and, and_true]; first | omega | (simp; done)) | (simp; done) | (simp; omega)) (Hp.le_refl _)⟩
  · have e : i = bs.length := by omega
    subst e
    have hll := hv.h.len
    have hif := Hold.mk hv.h.iff
    have hmm : ∀ b : Bool, b = !decide ((-1 : Int) ∈ L) → b = decide (IsPart n bs) := fun b e => by
      rw [e]
      by_cases h : (-1 : Int) ∈ L
      · rw [decide_eq_true h, decide_eq_false (fun hc => hif.h.2 hc h)]; rfl
      · rw [decide_eq_false h, decide_eq_true (hif.h.1 h)]; rfl
    have hmm := Hold.mk hmm
    subst hll
    repeat' (first | refine awp_seqK fun K hK => ?_ | (refine awp_regionK 2361183275519683315699 rfl ?_; simp only [List.map_cons, List.map_nil]; simp (maxSteps := 1000000) (dsimp := false) (implicitDefEqProofs := false) (disch := omega) only [wrap64, go_sem]) | (refine awp_regionQK 2361183275519683315699 (by kernel_rfl) (by kernel_rfl) (by kernel_rfl) ?_; simp only [List.map_cons, List.map_nil]; simp (maxSteps := 1000000) (dsimp := false) (implicitDefEqProofs := false) (disch := omega) only [wrap64, go_sem]) | refine awp_block ?_ | (refine awp_skip ?_; simp only [go_sem]) | (refine awp_exit ?_; simp only [go_sem]) | (refine awp_ret ?_; try simp only [go_sem]) | (refine awp_condP rfl ?_; try simp only [go_sem]) | (refine BrP.mk (fun h => ?_) (fun h => ?_) <;> try simp (dsimp := false) (disch := omega) only [wrap64]) | (refine Br.mk (fun h => ?_) (fun h => ?_) <;> try simp (dsimp := false) (disch := omega) only [wrap64]) | refine Ob.mk (by first | omega | (intro _ _; rfl) | trivial | (intros; trivial) | assumption | (intro i hi; have h0 : i = 0 := (by omega); subst h0; first | rfl | trivial) | (intro i hi; have h0 : i = 0 ∨ i = 1 := (by omega); rcases h0 with rfl | rfl <;> rfl) | (intro i hi; have h0 : i = 0 ∨ i = 1 ∨ i = 2 := (by omega); rcases h0 with rfl | rfl | rfl <;> rfl)) ?_ | ((first | ((first | refine atF (f := 150) ?_ | refine atQ (f := 150) ?_); (first | (refine cV (hac := containsI_ok L (-1) (by omega)) (hK := ?_)) | (refine cQV (hac := containsI_ok L (-1) (by omega)) (hK := ?_))))); simp (maxSteps := 1000000) (dsimp := false) (implicitDefEqProofs := false) (disch := omega) only [wrap64, go_sem]) | apply_assumption -exfalso -symm)
    all_goals (first | (show endQ _ _ _ _ _ _ _; (repeat (rename (∀ (A : Fr) (H : Hp), AWP _ _ _ _ A H → _) => hK; clear hK)); (repeat (rename (Fr → Hp → Prop) => K; clear K))) | (show Exists _; (repeat (rename (∀ (A : Fr) (H : Hp), AWP _ _ _ _ A H → _) => hK; clear hK)); (repeat (rename (Fr → Hp → Prop) => K; clear K))) | skip)
    refine end_X2 (b := ints L) rfl (by decide) rfl rfl ?_ (.refl _) ⟨L, ?_, hv.h.ix⟩
    · exact fits_I rfl trivial rfl rfl
    · rw [← hmm.h _ rfl]; rfl
theorem class_sc (n : Nat) (bs : List (List Int)) : ∀ r : AV, (∃ xs, r = .tup 2 (vecF [ints xs, .v (.bool (decide (IsPart n bs)))]) ∧ (IsPart n bs → xs = ixP n bs)) → ∀ p, r.scrub p = r := by
  rintro _ ⟨xs, rfl, _⟩ p
  simp only [scrub_tup, scF_vecF, List.map_cons, List.map_nil]; rfl
noncomputable instance (n : Nat) (g : List Int) (bs : List (List Int)) : Decidable (rspI n g bs) := Classical.propDecidable _
/-- What a permutation does to blocks, if it respects them. -/
theorem action_ok (n : Nat) (g : List Int) (bs : List (List Int)) (hn : 1 ≤ n ∧ n ≤ 20) (hp : IsPart n bs) (hg : Pm n g) : AC Try.prog 110 [ints g, intss bs, ints (ixP n bs)] Hp.emp (fun _ => false) (postX fun r => ∃ xs, r = .tup 2 (vecF [ints xs, .v (.bool (decide (Rsp n g bs)))]) ∧ (Rsp n g bs → xs = actP n bs g)) := by
  have hbl := hp.len
  have hgl := hg.1
  have hil := Go.Pm.ixP_len n bs
  have hp := Hold.mk hp
  have hg := Hold.mk hg
  have hal : ∀ k, k ≤ bs.length → ((actP n bs g).take k).length = k := fun k hk => by rw [List.length_take, Go.Pm.actP_len]; omega
  refine ac_of_awp (N := ⟨_, fun _ => false, fun _ _ => rfl⟩) Try.func110 rfl (by kernel_rfl) Try.ntmps110 (by simp) ?_
  simp only [argsFr, List.zipIdx_cons, List.zipIdx_nil, go_sem]
  repeat' (first | refine awp_seqK fun K hK => ?_ | (refine awp_regionK 8804146343367 rfl ?_; simp only [List.map_cons, List.map_nil]; simp (maxSteps := 1000000) (dsimp := false) (implicitDefEqProofs := false) (disch := omega) only [wrap64, go_sem]) | (refine awp_regionQK 8804146343367 (by kernel_rfl) (by kernel_rfl) (by kernel_rfl) ?_; simp only [List.map_cons, List.map_nil]; simp (maxSteps := 1000000) (dsimp := false) (implicitDefEqProofs := false) (disch := omega) only [wrap64, go_sem]) | refine awp_block ?_ | (refine awp_skip ?_; simp only [go_sem]) | (refine awp_exit ?_; simp only [go_sem]) | (refine awp_ret ?_; try simp only [go_sem]) | (refine awp_condP rfl ?_; try simp only [go_sem]) | (refine BrP.mk (fun h => ?_) (fun h => ?_) <;> try simp (dsimp := false) (disch := omega) only [wrap64]) | (refine Br.mk (fun h => ?_) (fun h => ?_) <;> try simp (dsimp := false) (disch := omega) only [wrap64]) | refine Ob.mk (by first | omega | (intro _ _; rfl) | trivial | (intros; trivial) | assumption | (intro i hi; have h0 : i = 0 := (by omega); subst h0; first | rfl | trivial) | (intro i hi; have h0 : i = 0 ∨ i = 1 := (by omega); rcases h0 with rfl | rfl <;> rfl) | (intro i hi; have h0 : i = 0 ∨ i = 1 ∨ i = 2 := (by omega); rcases h0 with rfl | rfl | rfl <;> rfl)) ?_ | apply_assumption -exfalso -symm)
  all_goals (first | (show endQ _ _ _ _ _ _ _; (repeat (rename (∀ (A : Fr) (H : Hp), AWP _ _ _ _ A H → _) => hK; clear hK)); (repeat (rename (Fr → Hp → Prop) => K; clear K))) | (show Exists _; (repeat (rename (∀ (A : Fr) (H : Hp), AWP _ _ _ _ A H → _) => hK; clear hK)); (repeat (rename (Fr → Hp → Prop) => K; clear K))) | skip)
  refine awp_loop (ι := Nat) (fun i => [(16, .v (.int .i64 ((i : Nat)))), (15, .v (.int .i64 (bs.length))), (14, .list false 1 (bs).length (cM ints [] (bs))), (8, .own 30 0 1 ((actP n bs g).take i).length), (0, .list false 1 (g).length (cM iv 0 (g))), (1, .list false 1 (bs).length (cM ints [] (bs))), (2, .list false 1 (ixP n bs).length (cM iv 0 (ixP n bs)))]) (fun i => Hp.emp.upd 30 (.cells ((actP n bs g).take i).length (cM iv 0 ((actP n bs g).take i)))) (fun i => i ≤ bs.length ∧ Hold (∀ j, j < i → ∀ k, k < (bs.getD j []).length → (ixP n bs).getD (img g ((bs.getD j []).getD k 0).toNat) 0 = (ixP n bs).getD (img g ((bs.getD j []).getD 0 0).toNat) 0)) (fun i => bs.length - i) 0 ⟨Nat.zero_le _, ⟨fun j h => absurd h (Nat.not_lt_zero _)⟩⟩ (Sub.trans (Sub.nil (i := 8) 30 1 (cM iv 0 []) rfl rfl) (Sub.toL (by simp only [go_sem] <;> first | trivial | (simp only [Option.some.injEq, AV.v.injEq, AV.own.injEq, AV.list.injEq, Value.int.injEq, Value.bool.injEq, true_and, and_true]; first | omega | (simp; done)) | (simp; done) | (simp; omega)) (by (repeat' (first | exact Hp.le_emp _ | exact Hp.le_refl _ | refine Hp.le_upd ?_ ?_)); all_goals (first | rfl | (simp only [go_sem]; first | rfl | (refine cellsE ?_ ?_ <;> (simp)) | (simp)))))) ?_
  rintro i ⟨hi, hv⟩
  have hbi := part_blk hp.h i
  have hent0 : i < bs.length → 0 < (bs.getD i []).length ∧ 0 ≤ (bs.getD i []).getD 0 0 ∧ (bs.getD i []).getD 0 0 < n ∧ 0 ≤ g.getD ((bs.getD i []).getD 0 0).toNat 0 ∧ g.getD ((bs.getD i []).getD 0 0).toNat 0 < n := fun h => by
    obtain ⟨x, e, hx, _⟩ := hp.h.entry h (hp.h.pos h)
    have h1 := hp.h.pos h
    have := hg.h.2.1 x hx
    rw [e, Int.toNat_natCast]
    omega
  have hali := hal i hi
  repeat' (first | refine awp_seqK fun K hK => ?_ | (refine awp_regionK 8804146343367 rfl ?_; simp only [List.map_cons, List.map_nil]; simp (maxSteps := 1000000) (dsimp := false) (implicitDefEqProofs := false) (disch := omega) only [wrap64, go_sem, tn0]) | (refine awp_regionQK 8804146343367 (by kernel_rfl) (by kernel_rfl) (by kernel_rfl) ?_; simp only [List.map_cons, List.map_nil]; simp (maxSteps := 1000000) (dsimp := false) (implicitDefEqProofs := false) (disch := omega) only [wrap64, go_sem, tn0]) | refine awp_block ?_ | (refine awp_skip ?_; simp only [go_sem, tn0]) | (refine awp_exit ?_; simp only [go_sem, tn0]) | (refine awp_ret ?_; try simp only [go_sem, tn0]) | (refine awp_condP rfl ?_; try simp only [go_sem, tn0]) | (refine BrP.mk (fun h => ?_) (fun h => ?_) <;> try simp (dsimp := false) (disch := omega) only [wrap64]) | (refine Br.mk (fun h => ?_) (fun h => ?_) <;> try simp (dsimp := false) (disch := omega) only [wrap64]) | refine Ob.mk (by first | omega | (intro _ _; rfl) | trivial | (intros; trivial) | assumption | (intro i hi; have h0 : i = 0 := (by omega); subst h0; first | rfl | trivial) | (intro i hi; have h0 : i = 0 ∨ i = 1 := (by omega); rcases h0 with rfl | rfl <;> rfl) | (intro i hi; have h0 : i = 0 ∨ i = 1 ∨ i = 2 := (by omega); rcases h0 with rfl | rfl | rfl <;> rfl)) ?_ | apply_assumption -exfalso -symm)
  all_goals (first | (show endQ _ _ _ _ _ _ _; (repeat (rename (∀ (A : Fr) (H : Hp), AWP _ _ _ _ A H → _) => hK; clear hK)); (repeat (rename (Fr → Hp → Prop) => K; clear K))) | (show Exists _; (repeat (rename (∀ (A : Fr) (H : Hp), AWP _ _ _ _ A H → _) => hK; clear hK)); (repeat (rename (Fr → Hp → Prop) => K; clear K))) | skip)
  · obtain ⟨c, ec⟩ : ∃ c, c = (ixP n bs).getD (g.getD ((bs.getD i []).getD 0 0).toNat 0).toNat 0 := ⟨_, rfl⟩
    rw [← ec]
    refine awp_loop (ι := Nat) (fun k => [(31, .v (.int .i64 ((k : Nat)))), (30, .v (.int .i64 ((bs.getD i []).length))), (29, .list false 1 (bs.getD i []).length (cM iv 0 (bs.getD i []))), (11, .v (.int .i64 (c))), (16, .v (.int .i64 ((i : Nat)))), (15, .v (.int .i64 (bs.length))), (14, .list false 1 (bs).length (cM ints [] (bs))), (8, .own 30 0 1 ((actP n bs g).take i).length), (0, .list false 1 (g).length (cM iv 0 (g))), (1, .list false 1 (bs).length (cM ints [] (bs))), (2, .list false 1 (ixP n bs).length (cM iv 0 (ixP n bs)))]) (fun _ => Hp.emp.upd 30 (.cells ((actP n bs g).take i).length (cM iv 0 ((actP n bs g).take i)))) (fun k => k ≤ (bs.getD i []).length ∧ Hold (∀ j, j < k → (ixP n bs).getD (img g ((bs.getD i []).getD j 0).toNat) 0 = c)) (fun k => (bs.getD i []).length - k) 0 ⟨Nat.zero_le _, ⟨fun j h => absurd h (Nat.not_lt_zero _)⟩⟩ (Sub.toL (by simp only [go_sem] <;> first | trivial | (simp only [Option.some.injEq, AV.v.injEq, AV.own.injEq, AV.list.injEq, Value.int.injEq, Value.bool.injEq, true_and, and_true]; first | omega | (simp; done)) | (simp; done) | (simp; omega)) (Hp.le_refl _)) ?_
    rintro k ⟨hk, hw⟩
    have hent : k < (bs.getD i []).length → 0 ≤ (bs.getD i []).getD k 0 ∧ (bs.getD i []).getD k 0 < n ∧ 0 ≤ g.getD ((bs.getD i []).getD k 0).toNat 0 ∧ g.getD ((bs.getD i []).getD k 0).toNat 0 < n := fun h => by
      obtain ⟨x, e, hx, _⟩ := hp.h.entry (i := i) (by omega) h
      have := hg.h.2.1 x hx
      rw [e, Int.toNat_natCast]
      omega
    repeat' (first | refine awp_seqK fun K hK => ?_ | (refine awp_regionK 8804146343367 rfl ?_; simp only [List.map_cons, List.map_nil]; simp (maxSteps := 1000000) (dsimp := false) (implicitDefEqProofs := false) (disch := omega) only [wrap64, go_sem, tn0]) | (refine awp_regionQK 8804146343367 (by kernel_rfl) (by kernel_rfl) (by kernel_rfl) ?_; simp only [List.map_cons, List.map_nil]; simp (maxSteps := 1000000) (dsimp := false) (implicitDefEqProofs := false) (disch := omega) only [wrap64, go_sem, tn0]) | refine awp_block ?_ | (refine awp_skip ?_; simp only [go_sem, tn0]) | (refine awp_exit ?_; simp only [go_sem, tn0]) | (refine awp_ret ?_; try simp only [go_sem, tn0]) | (refine awp_condP rfl ?_; try simp only [go_sem, tn0]) | (refine BrP.mk (fun h => ?_) (fun h => ?_) <;> try simp (dsimp := false) (disch := omega) only [wrap64]) | (refine Br.mk (fun h => ?_) (fun h => ?_) <;> try simp (dsimp := false) (disch := omega) only [wrap64]) | refine Ob.mk (by first | omega | (intro _ _; rfl) | trivial | (intros; trivial) | assumption | (intro i hi; have h0 : i = 0 := (by omega); subst h0; first | rfl | trivial) | (intro i hi; have h0 : i = 0 ∨ i = 1 := (by omega); rcases h0 with rfl | rfl <;> rfl) | (intro i hi; have h0 : i = 0 ∨ i = 1 ∨ i = 2 := (by omega); rcases h0 with rfl | rfl | rfl <;> rfl)) ?_ | apply_assumption -exfalso -symm)
    all_goals (first | (show endQ _ _ _ _ _ _ _; (repeat (rename (∀ (A : Fr) (H : Hp), AWP _ _ _ _ A H → _) => hK; clear hK)); (repeat (rename (Fr → Hp → Prop) => K; clear K))) | (show Exists _; (repeat (rename (∀ (A : Fr) (H : Hp), AWP _ _ _ _ A H → _) => hK; clear hK)); (repeat (rename (Fr → Hp → Prop) => K; clear K))) | skip)
    · refine ⟨k + 1, ⟨by omega, ⟨fun j hj => ?_⟩⟩, by omega, Sub.toL (by simp only [go_sem] <;> first | trivial | (simp only [Option.some.injEq, AV.v.injEq, AV.own.injEq, AV.list.injEq, Value.int.injEq, Value.bool.injEq, true_and, and_true]; first | omega | (simp; done)) | (simp; done) | (simp; omega)) (Hp.le_refl _)⟩
      by_cases e : j = k
      · subst e; unfold img; assumption
      · exact hw.h j (by omega)
    · have hnr : ¬ Rsp n g bs := fun hc => by
        have := (Go.Pm.rspI_iff hp.h hg.h).2 hc i (by omega) k (by omega)
        unfold img at this
        rw [← ec] at this
        contradiction
      exact end_X2 rfl (by decide) rfl rfl .nil (.refl _) ⟨[], by rw [decide_eq_false hnr]; rfl, fun h => absurd h hnr⟩
    · have ek : k = (bs.getD i []).length := by omega
      subst ek
      have e1 : (actP n bs g).take i ++ [c] = (actP n bs g).take (i + 1) := by
        have hil2 : i < (actP n bs g).length := by rw [Go.Pm.actP_len]; omega
        rw [List.take_succ_eq_append_getElem hil2]
        congr 2
        have := Go.Pm.actP_get (n := n) (bs := bs) (g := g) (i := i) (by omega)
        rw [List.getD_eq_getElem?_getD, List.getElem?_eq_getElem hil2] at this
        rw [ec]; exact this.symm
      have e2 : ((actP n bs g).take (i + 1)).length = ((actP n bs g).take i).length + 1 := by rw [← e1, List.length_append, List.length_singleton]
      refine ⟨i + 1, ⟨by omega, ⟨fun j hj => ?_⟩⟩, by omega, ?_⟩
      · by_cases e : j = i
        · subst e
          intro k hk
          rw [hw.h k hk, ec]; rfl
        · exact hv.h j (by omega)
      · rw [e2, ← e1]
        exact Sub.toL (by simp only [go_sem] <;> first | trivial | (simp only [Option.some.injEq, AV.v.injEq, AV.own.injEq, AV.list.injEq, Value.int.injEq, Value.bool.injEq, true_and, and_true]; first | omega | (simp; done)) | (simp; done) | (simp; omega)) (by (repeat' (first | exact Hp.le_emp _ | exact Hp.le_refl _ | refine Hp.le_upd ?_ ?_)); all_goals (first | rfl | (simp only [go_sem]; first | rfl | (refine cellsE ?_ ?_ <;> (simp)) | (simp))))
  · have ei : i = bs.length := by omega
    subst ei
    have ea : (actP n bs g).take bs.length = actP n bs g := by rw [← Go.Pm.actP_len n bs g, List.take_length]
    have hrsp : Rsp n g bs := (Go.Pm.rspI_iff hp.h hg.h).1 fun j hj => hv.h j hj
    have hpm := Go.Pm.actP_pm hp.h hg.h hrsp
    have hlb : 1 ≤ bs.length := by
      obtain ⟨b, hb, _⟩ := hp.h.all 0 (by omega)
      exact List.length_pos_of_mem hb
    have hper : isPerm (actP n bs g) := (isPerm_pm _).2 ⟨by rw [hpm.1]; omega, by rw [hpm.1]; exact hpm⟩
    have hdp : decide (isPerm (actP n bs g)) = true := decide_eq_true hper
    have hrsp := Hold.mk hrsp
    rw [ea]
    repeat' (first | refine awp_seqK fun K hK => ?_ | (refine awp_regionK 8804146343367 rfl ?_; simp only [List.map_cons, List.map_nil]; simp (maxSteps := 1000000) (dsimp := false) (implicitDefEqProofs := false) (disch := omega) only [wrap64, go_sem, hdp]) | (refine awp_regionQK 8804146343367 (by kernel_rfl) (by kernel_rfl) (by kernel_rfl) ?_; simp only [List.map_cons, List.map_nil]; simp (maxSteps := 1000000) (dsimp := false) (implicitDefEqProofs := false) (disch := omega) only [wrap64, go_sem, hdp]) | refine awp_block ?_ | (refine awp_skip ?_; simp only [go_sem, hdp]) | (refine awp_exit ?_; simp only [go_sem, hdp]) | (refine awp_ret ?_; try simp only [go_sem, hdp]) | (refine awp_condP rfl ?_; try simp only [go_sem, hdp]) | (refine BrP.mk (fun h => ?_) (fun h => ?_) <;> try simp (dsimp := false) (disch := omega) only [wrap64]) | (refine Br.mk (fun h => ?_) (fun h => ?_) <;> try simp (dsimp := false) (disch := omega) only [wrap64]) | refine Ob.mk (by first | omega | (intro _ _; rfl) | trivial | (intros; trivial) | assumption | (intro i hi; have h0 : i = 0 := (by omega); subst h0; first | rfl | trivial) | (intro i hi; have h0 : i = 0 ∨ i = 1 := (by omega); rcases h0 with rfl | rfl <;> rfl) | (intro i hi; have h0 : i = 0 ∨ i = 1 ∨ i = 2 := (by omega); rcases h0 with rfl | rfl | rfl <;> rfl)) ?_ | ((first | ((first | refine atF (f := 78) ?_ | refine atQ (f := 78) ?_); (first | (refine cV (hac := implIsPermutation_ok (actP n bs g)) (hK := ?_)) | (refine cQV (hac := implIsPermutation_ok (actP n bs g)) (hK := ?_))))); simp (maxSteps := 1000000) (dsimp := false) (implicitDefEqProofs := false) (disch := omega) only [wrap64, go_sem, hdp]) | apply_assumption -exfalso -symm)
    all_goals (first | (show endQ _ _ _ _ _ _ _; (repeat (rename (∀ (A : Fr) (H : Hp), AWP _ _ _ _ A H → _) => hK; clear hK)); (repeat (rename (Fr → Hp → Prop) => K; clear K))) | (show Exists _; (repeat (rename (∀ (A : Fr) (H : Hp), AWP _ _ _ _ A H → _) => hK; clear hK)); (repeat (rename (Fr → Hp → Prop) => K; clear K))) | skip)
    refine end_X2 (b := ints (actP n bs g)) rfl (by decide) rfl rfl ?_ (.refl _) ⟨actP n bs g, by rw [decide_eq_true hrsp.h]; rfl, fun _ => rfl⟩
    exact fits_I rfl trivial rfl rfl
theorem action_sc (n : Nat) (g : List Int) (bs : List (List Int)) : ∀ r : AV, (∃ xs, r = .tup 2 (vecF [ints xs, .v (.bool (decide (Rsp n g bs)))]) ∧ (Rsp n g bs → xs = actP n bs g)) → ∀ p, r.scrub p = r := by
  rintro _ ⟨xs, rfl, _⟩ p
  simp only [scrub_tup, scF_vecF, List.map_cons, List.map_nil]; rfl
/-- The permutations of blocks by the first k generators. -/
noncomputable def acts (n : Nat) (bs gs : List (List Int)) (k : Nat) : List (List Int) := (gs.take k).map (actP n bs)
theorem acts_len (n : Nat) (bs gs : List (List Int)) (k : Nat) (hk : k ≤ gs.length) : (acts n bs gs k).length = k := by unfold acts; rw [List.length_map, List.length_take]; omega
theorem acts_succ (n : Nat) (bs gs : List (List Int)) (k : Nat) (hk : k < gs.length) : acts n bs gs (k + 1) = acts n bs gs k ++ [actP n bs (gs.getD k [])] := by
  unfold acts
  rw [List.take_succ_eq_append_getElem hk, List.map_append]
  simp [hk]
theorem acts_all (n : Nat) (bs gs : List (List Int)) : acts n bs gs gs.length = gs.map (actP n bs) := by unfold acts; rw [List.take_length]
/-- What BlockAction answers. -/
noncomputable def baP (n : Int) (gs bs : List (List Int)) : List (List Int) := if isBS n gs bs then gs.map (actP n.toNat bs) else []
theorem implBlockAction_ok (n : Int) (gs bs : List (List Int)) (hl : bs.length ≤ 1000000) (hb : ∀ j, (bs.getD j []).length ≤ 1000000) : AC Try.prog 45 [.v (.int .i64 (n)), intss gs, intss bs] Hp.emp (fun _ => false) (retV (.tup 2 (vecF [intss (baP n gs bs), .v (.bool (decide (isBS n gs bs)))]))) := by
  by_cases hok : isGens n gs
  · have hd : decide (isGens n gs) = true := decide_eq_true hok
    obtain ⟨h1, h2, h3⟩ := gens_pm hok
    have hgl := hok.2.1
    have h1 := Hold.mk h1
    have hb := Hold.mk hb
    have hn : ((n.toNat : Nat) : Int) = n := by omega
    have hcl := classOf_ok n.toNat bs (by omega) hl hb.h
    rw [hn] at hcl
    by_cases hp : IsPart n.toNat bs
    · have hdp : decide (IsPart n.toNat bs) = true := decide_eq_true hp
      have hp := Hold.mk hp
      refine ac_of_awp (N := ⟨_, fun _ => false, fun _ _ => rfl⟩) Try.func45 rfl (by kernel_rfl) Try.ntmps45 (by simp) ?_
      simp only [argsFr, List.zipIdx_cons, List.zipIdx_nil, go_sem]
      repeat' (first | ((first | refine atF (f := 97) ?_ | refine atQ (f := 97) ?_); (refine callX hcl (class_sc n.toNat bs) (fun r hq => ?_); obtain ⟨cl, rfl, hcx⟩ := hq) <;> simp (maxSteps := 1000000) (dsimp := false) (implicitDefEqProofs := false) (disch := omega) only [wrap64, go_sem, hd, hdp]) | refine awp_seqK fun K hK => ?_ | (refine awp_regionK 2201103923143 rfl ?_; simp only [List.map_cons, List.map_nil]; simp (maxSteps := 1000000) (dsimp := false) (implicitDefEqProofs := false) (disch := omega) only [wrap64, go_sem, hd, hdp]) | (refine awp_regionQK 2201103923143 (by kernel_rfl) (by kernel_rfl) (by kernel_rfl) ?_; simp only [List.map_cons, List.map_nil]; simp (maxSteps := 1000000) (dsimp := false) (implicitDefEqProofs := false) (disch := omega) only [wrap64, go_sem, hd, hdp]) | refine awp_block ?_ | (refine awp_skip ?_; simp only [go_sem, hd, hdp]) | (refine awp_exit ?_; simp only [go_sem, hd, hdp]) | (refine awp_ret ?_; try simp only [go_sem, hd, hdp]) | (refine awp_condP rfl ?_; try simp only [go_sem, hd, hdp]) | (refine BrP.mk (fun h => ?_) (fun h => ?_) <;> try simp (dsimp := false) (disch := omega) only [wrap64]) | (refine Br.mk (fun h => ?_) (fun h => ?_) <;> try simp (dsimp := false) (disch := omega) only [wrap64]) | refine Ob.mk (by first | omega | (intro _ _; rfl) | trivial | (intros; trivial) | assumption | (intro i hi; have h0 : i = 0 := (by omega); subst h0; first | rfl | trivial) | (intro i hi; have h0 : i = 0 ∨ i = 1 := (by omega); rcases h0 with rfl | rfl <;> rfl) | (intro i hi; have h0 : i = 0 ∨ i = 1 ∨ i = 2 := (by omega); rcases h0 with rfl | rfl | rfl <;> rfl)) ?_ | ((first | ((first | refine atF (f := 76) ?_ | refine atQ (f := 76) ?_); (first | (refine cV (hac := implIsGeneratorSet_ok n gs) (hK := ?_)) | (refine cQV (hac := implIsGeneratorSet_ok n gs) (hK := ?_))))); simp (maxSteps := 1000000) (dsimp := false) (implicitDefEqProofs := false) (disch := omega) only [wrap64, go_sem, hd, hdp]) | apply_assumption -exfalso -symm)
      all_goals (first | (show endQ _ _ _ _ _ _ _; (repeat (rename (∀ (A : Fr) (H : Hp), AWP _ _ _ _ A H → _) => hK; clear hK)); (repeat (rename (Fr → Hp → Prop) => K; clear K))) | (show Exists _; (repeat (rename (∀ (A : Fr) (H : Hp), AWP _ _ _ _ A H → _) => hK; clear hK)); (repeat (rename (Fr → Hp → Prop) => K; clear K))) | skip)
      rw [hcx hp.h]
      refine awp_loop (ι := Nat) (fun k => [(29, .v (.int .i64 ((k : Nat)))), (28, .v (.int .i64 (gs.length))), (27, .list false 1 (gs).length (cM ints [] (gs))), (10, .own 30 0 1 k), (8, .list false 1 (ixP n.toNat bs).length (cM iv 0 (ixP n.toNat bs))), (2, .list false 1 (bs).length (cM ints [] (bs)))]) (fun k => Hp.emp.upd 30 (.cells k (cM ints [] (acts n.toNat bs gs k)))) (fun k => k ≤ gs.length ∧ Hold (∀ j, j < k → Rsp n.toNat (gs.getD j []) bs)) (fun k => gs.length - k) 0 ⟨Nat.zero_le _, ⟨fun j h => absurd h (Nat.not_lt_zero _)⟩⟩ ?_ ?_
      · exact Sub.trans (Sub.nil (i := 10) 30 1 (cM ints [] []) rfl rfl) (Sub.toFF (fun _ => False) (Fr.fit_cons rfl (.refl _) (Fr.fit_cons rfl (.refl _) (Fr.fit_cons rfl (.refl _) (Fr.fit_cons rfl (.refl _) (Fr.fit_cons rfl (.refl _) (Fr.fit_cons rfl (.refl _) (Fr.fit_nil _))))))) (leF_upd rfl (bfE rfl (fun i hi => absurd hi (Nat.not_lt_zero _))) leF_emp id))
      rintro k ⟨hk, hv⟩
      have hal := acts_len n.toNat bs gs k hk
      have hac := Hold.mk (fun h : k < gs.length => action_ok n.toNat (gs.getD k []) bs (by omega) hp.h (h1.h _ (by rw [List.getD_eq_getElem?_getD, List.getElem?_eq_getElem h]; exact List.getElem_mem h)))
      by_cases hr : Rsp n.toNat (gs.getD k []) bs
      · have hdr : decide (Rsp n.toNat (gs.getD k []) bs) = true := decide_eq_true hr
        have hr := Hold.mk hr
        repeat' (first | (show False; omega) | ((first | refine atF (f := 110) ?_ | refine atQ (f := 110) ?_); (refine callX (hac.h (by omega)) (action_sc n.toNat (gs.getD k []) bs) (fun r hq => ?_); obtain ⟨ac, rfl, hax⟩ := hq) <;> simp (maxSteps := 1000000) (dsimp := false) (implicitDefEqProofs := false) (disch := omega) only [wrap64, go_sem, hdr]) | refine awp_seqK fun K hK => ?_ | (refine awp_regionK 2201103923143 rfl ?_; simp only [List.map_cons, List.map_nil]; simp (maxSteps := 1000000) (dsimp := false) (implicitDefEqProofs := false) (disch := omega) only [wrap64, go_sem, hdr]) | (refine awp_regionQK 2201103923143 (by kernel_rfl) (by kernel_rfl) (by kernel_rfl) ?_; simp only [List.map_cons, List.map_nil]; simp (maxSteps := 1000000) (dsimp := false) (implicitDefEqProofs := false) (disch := omega) only [wrap64, go_sem, hdr]) | refine awp_block ?_ | (refine awp_skip ?_; simp only [go_sem, hdr]) | (refine awp_exit ?_; simp only [go_sem, hdr]) | (refine awp_ret ?_; try simp only [go_sem, hdr]) | (refine awp_condP rfl ?_; try simp only [go_sem, hdr]) | (refine BrP.mk (fun h => ?_) (fun h => ?_) <;> try simp (dsimp := false) (disch := omega) only [wrap64]) | (refine Br.mk (fun h => ?_) (fun h => ?_) <;> try simp (dsimp := false) (disch := omega) only [wrap64]) | refine Ob.mk (by first | omega | (intro _ _; rfl) | trivial | (intros; trivial) | assumption | (intro i hi; have h0 : i = 0 := (by omega); subst h0; first | rfl | trivial) | (intro i hi; have h0 : i = 0 ∨ i = 1 := (by omega); rcases h0 with rfl | rfl <;> rfl) | (intro i hi; have h0 : i = 0 ∨ i = 1 ∨ i = 2 := (by omega); rcases h0 with rfl | rfl | rfl <;> rfl)) ?_ | apply_assumption -exfalso -symm)
        all_goals (first | (show endQ _ _ _ _ _ _ _; (repeat (rename (∀ (A : Fr) (H : Hp), AWP _ _ _ _ A H → _) => hK; clear hK)); (repeat (rename (Fr → Hp → Prop) => K; clear K))) | (show Exists _; (repeat (rename (∀ (A : Fr) (H : Hp), AWP _ _ _ _ A H → _) => hK; clear hK)); (repeat (rename (Fr → Hp → Prop) => K; clear K))) | skip)
        · refine ⟨k + 1, ⟨by omega, ⟨fun j hj => ?_⟩⟩, by omega, ?_⟩
          · by_cases e : j = k
            · subst e; exact hr.h
            · exact hv.h j (by omega)
          · rw [hax hr.h]
            refine Sub.toFF (fun _ => False) (Fr.fit_cons rfl (.refl _) (Fr.fit_cons rfl (.refl _) (Fr.fit_cons rfl (.refl _) (Fr.fit_cons rfl (.refl _) (Fr.fit_cons rfl (.refl _) (Fr.fit_cons rfl (.refl _) (Fr.fit_nil _))))))) (leF_upd rfl (bfE rfl (fun i hi => ?_)) leF_emp id)
            rw [acts_succ n.toNat bs gs k (by omega)]
            have := ap_ints (acts n.toNat bs gs k) (actP n.toNat bs (gs.getD k [])) i (by omega)
            rw [hal] at this
            exact this
        · have ek : k = gs.length := by omega
          have hbs : isBS n gs bs := ⟨hok, hp.h, fun j hj => hv.h j (by omega)⟩
          rw [show baP n gs bs = acts n.toNat bs gs gs.length from (if_pos hbs).trans (acts_all _ _ _).symm, decide_eq_true hbs, ← ek]
          refine end_T2 rfl (by decide) rfl rfl ?_ (.refl _)
          exact fits_II rfl trivial rfl hal.symm
      · have hdr : decide (Rsp n.toNat (gs.getD k []) bs) = false := decide_eq_false hr
        have hr := Hold.mk hr
        repeat' (first | (show False; omega) | ((first | refine atF (f := 110) ?_ | refine atQ (f := 110) ?_); (refine callX (hac.h (by omega)) (action_sc n.toNat (gs.getD k []) bs) (fun r hq => ?_); obtain ⟨ac, rfl, hax⟩ := hq) <;> simp (maxSteps := 1000000) (dsimp := false) (implicitDefEqProofs := false) (disch := omega) only [wrap64, go_sem, hdr]) | refine awp_seqK fun K hK => ?_ | (refine awp_regionK 2201103923143 rfl ?_; simp only [List.map_cons, List.map_nil]; simp (maxSteps := 1000000) (dsimp := false) (implicitDefEqProofs := false) (disch := omega) only [wrap64, go_sem, hdr]) | (refine awp_regionQK 2201103923143 (by kernel_rfl) (by kernel_rfl) (by kernel_rfl) ?_; simp only [List.map_cons, List.map_nil]; simp (maxSteps := 1000000) (dsimp := false) (implicitDefEqProofs := false) (disch := omega) only [wrap64, go_sem, hdr]) | refine awp_block ?_ | (refine awp_skip ?_; simp only [go_sem, hdr]) | (refine awp_exit ?_; simp only [go_sem, hdr]) | (refine awp_ret ?_; try simp only [go_sem, hdr]) | (refine awp_condP rfl ?_; try simp only [go_sem, hdr]) | (refine BrP.mk (fun h => ?_) (fun h => ?_) <;> try simp (dsimp := false) (disch := omega) only [wrap64]) | (refine Br.mk (fun h => ?_) (fun h => ?_) <;> try simp (dsimp := false) (disch := omega) only [wrap64]) | refine Ob.mk (by first | omega | (intro _ _; rfl) | trivial | (intros; trivial) | assumption | (intro i hi; have h0 : i = 0 := (by omega); subst h0; first | rfl | trivial) | (intro i hi; have h0 : i = 0 ∨ i = 1 := (by omega); rcases h0 with rfl | rfl <;> rfl) | (intro i hi; have h0 : i = 0 ∨ i = 1 ∨ i = 2 := (by omega); rcases h0 with rfl | rfl | rfl <;> rfl)) ?_ | apply_assumption -exfalso -symm)
        all_goals (first | (show endQ _ _ _ _ _ _ _; (repeat (rename (∀ (A : Fr) (H : Hp), AWP _ _ _ _ A H → _) => hK; clear hK)); (repeat (rename (Fr → Hp → Prop) => K; clear K))) | (show Exists _; (repeat (rename (∀ (A : Fr) (H : Hp), AWP _ _ _ _ A H → _) => hK; clear hK)); (repeat (rename (Fr → Hp → Prop) => K; clear K))) | skip)
        · have hbs : ¬ isBS n gs bs := fun h => hr.h (h.2.2 k (by omega))
          rw [decide_eq_false hbs, show baP n gs bs = [] from if_neg hbs]
          exact end_T2 rfl (by decide) rfl rfl .nil (.refl _)
        · have ek : k = gs.length := by omega
          have hbs : isBS n gs bs := ⟨hok, hp.h, fun j hj => hv.h j (by omega)⟩
          rw [show baP n gs bs = acts n.toNat bs gs gs.length from (if_pos hbs).trans (acts_all _ _ _).symm, decide_eq_true hbs, ← ek]
          refine end_T2 rfl (by decide) rfl rfl ?_ (.refl _)
          exact fits_II rfl trivial rfl hal.symm
    · have hdp : decide (IsPart n.toNat bs) = false := decide_eq_false hp
      have hdb : decide (isBS n gs bs) = false := decide_eq_false fun h => hp h.2.1
      rw [hdb, show baP n gs bs = [] from if_neg fun h => hp h.2.1]
      refine ac_of_awp (N := ⟨_, fun _ => false, fun _ _ => rfl⟩) Try.func45 rfl (by kernel_rfl) Try.ntmps45 (by simp) ?_
      simp only [argsFr, List.zipIdx_cons, List.zipIdx_nil, go_sem]
      repeat' (first | ((first | refine atF (f := 97) ?_ | refine atQ (f := 97) ?_); (refine callX hcl (class_sc n.toNat bs) (fun r hq => ?_); obtain ⟨cl, rfl, hcx⟩ := hq) <;> simp (maxSteps := 1000000) (dsimp := false) (implicitDefEqProofs := false) (disch := omega) only [wrap64, go_sem, hd, hdp]) | refine awp_seqK fun K hK => ?_ | (refine awp_regionK 2201103923143 rfl ?_; simp only [List.map_cons, List.map_nil]; simp (maxSteps := 1000000) (dsimp := false) (implicitDefEqProofs := false) (disch := omega) only [wrap64, go_sem, hd, hdp]) | (refine awp_regionQK 2201103923143 (by kernel_rfl) (by kernel_rfl) (by kernel_rfl) ?_; simp only [List.map_cons, List.map_nil]; simp (maxSteps := 1000000) (dsimp := false) (implicitDefEqProofs := false) (disch := omega) only [wrap64, go_sem, hd, hdp]) | refine awp_block ?_ | (refine awp_skip ?_; simp only [go_sem, hd, hdp]) | (refine awp_exit ?_; simp only [go_sem, hd, hdp]) | (refine awp_ret ?_; try simp only [go_sem, hd, hdp]) | (refine awp_condP rfl ?_; try simp only [go_sem, hd, hdp]) | (refine BrP.mk (fun h => ?_) (fun h => ?_) <;> try simp (dsimp := false) (disch := omega) only [wrap64]) | (refine Br.mk (fun h => ?_) (fun h => ?_) <;> try simp (dsimp := false) (disch := omega) only [wrap64]) | refine Ob.mk (by first | omega | (intro _ _; rfl) | trivial | (intros; trivial) | assumption | (intro i hi; have h0 : i = 0 := (by omega); subst h0; first | rfl | trivial) | (intro i hi; have h0 : i = 0 ∨ i = 1 := (by omega); rcases h0 with rfl | rfl <;> rfl) | (intro i hi; have h0 : i = 0 ∨ i = 1 ∨ i = 2 := (by omega); rcases h0 with rfl | rfl | rfl <;> rfl)) ?_ | ((first | ((first | refine atF (f := 76) ?_ | refine atQ (f := 76) ?_); (first | (refine cV (hac := implIsGeneratorSet_ok n gs) (hK := ?_)) | (refine cQV (hac := implIsGeneratorSet_ok n gs) (hK := ?_))))); simp (maxSteps := 1000000) (dsimp := false) (implicitDefEqProofs := false) (disch := omega) only [wrap64, go_sem, hd, hdp]) | apply_assumption -exfalso -symm)
      all_goals (first | (show endQ _ _ _ _ _ _ _; (repeat (rename (∀ (A : Fr) (H : Hp), AWP _ _ _ _ A H → _) => hK; clear hK)); (repeat (rename (Fr → Hp → Prop) => K; clear K))) | (show Exists _; (repeat (rename (∀ (A : Fr) (H : Hp), AWP _ _ _ _ A H → _) => hK; clear hK)); (repeat (rename (Fr → Hp → Prop) => K; clear K))) | skip)
      exact end_T2 rfl (by decide) rfl rfl .nil (.refl _)
  · have hd : decide (isGens n gs) = false := decide_eq_false hok
    have hdb : decide (isBS n gs bs) = false := decide_eq_false fun h => hok h.1
    rw [hdb, show baP n gs bs = [] from if_neg fun h => hok h.1]
    refine ac_of_awp (N := ⟨_, fun _ => false, fun _ _ => rfl⟩) Try.func45 rfl (by kernel_rfl) Try.ntmps45 (by simp) ?_
    simp only [argsFr, List.zipIdx_cons, List.zipIdx_nil, go_sem]
    repeat' (first | refine awp_seqK fun K hK => ?_ | (refine awp_regionK 2201103923143 rfl ?_; simp only [List.map_cons, List.map_nil]; simp (maxSteps := 1000000) (dsimp := false) (implicitDefEqProofs := false) (disch := omega) only [wrap64, go_sem, hd]) | (refine awp_regionQK 2201103923143 (by kernel_rfl) (by kernel_rfl) (by kernel_rfl) ?_; simp only [List.map_cons, List.map_nil]; simp (maxSteps := 1000000) (dsimp := false) (implicitDefEqProofs := false) (disch := omega) only [wrap64, go_sem, hd]) | refine awp_block ?_ | (refine awp_skip ?_; simp only [go_sem, hd]) | (refine awp_exit ?_; simp only [go_sem, hd]) | (refine awp_ret ?_; try simp only [go_sem, hd]) | (refine awp_condP rfl ?_; try simp only [go_sem, hd]) | (refine BrP.mk (fun h => ?_) (fun h => ?_) <;> try simp (dsimp := false) (disch := omega) only [wrap64]) | (refine Br.mk (fun h => ?_) (fun h => ?_) <;> try simp (dsimp := false) (disch := omega) only [wrap64]) | refine Ob.mk (by first | omega | (intro _ _; rfl) | trivial | (intros; trivial) | assumption | (intro i hi; have h0 : i = 0 := (by omega); subst h0; first | rfl | trivial) | (intro i hi; have h0 : i = 0 ∨ i = 1 := (by omega); rcases h0 with rfl | rfl <;> rfl) | (intro i hi; have h0 : i = 0 ∨ i = 1 ∨ i = 2 := (by omega); rcases h0 with rfl | rfl | rfl <;> rfl)) ?_ | ((first | ((first | refine atF (f := 76) ?_ | refine atQ (f := 76) ?_); (first | (refine cV (hac := implIsGeneratorSet_ok n gs) (hK := ?_)) | (refine cQV (hac := implIsGeneratorSet_ok n gs) (hK := ?_))))); simp (maxSteps := 1000000) (dsimp := false) (implicitDefEqProofs := false) (disch := omega) only [wrap64, go_sem, hd]) | apply_assumption -exfalso -symm)
    all_goals (first | (show endQ _ _ _ _ _ _ _; (repeat (rename (∀ (A : Fr) (H : Hp), AWP _ _ _ _ A H → _) => hK; clear hK)); (repeat (rename (Fr → Hp → Prop) => K; clear K))) | (show Exists _; (repeat (rename (∀ (A : Fr) (H : Hp), AWP _ _ _ _ A H → _) => hK; clear hK)); (repeat (rename (Fr → Hp → Prop) => K; clear K))) | skip)
    exact end_T2 rfl (by decide) rfl rfl .nil (.refl _)
theorem baT_scrub (p : Nat → Bool) (a : List (List Int)) (b : Bool) : (AV.tup 2 (vecF [intss a, .v (.bool (b))])).scrub p = .tup 2 (vecF [intss a, .v (.bool (b))]) := by
  simp only [scrub_tup, scF_vecF, List.map_cons, List.map_nil]; rfl
end Go.Proofs.Ytngpacdhpblpbaa
end
/- Block systems, the program: merging labels. -/
section
namespace Go.Proofs.Ytngpacdhpblpbaa
open Go.Av
set_option linter.unusedSimpArgs false
set_option linter.unusedVariables false
attribute [local irreducible] AWP CallG Ob Br BrP Go.Av.Sub endQ AOps OpV AC thenA blkA opsVC opVC withA withArgs opsQ opQ CallQ withA2 withArgs2
open Go.Pm (Pm ptI partI IsPart ixP Rsp rspI actP img invp mrg Lbl SL SB parts loR clsF clsN partK Cg MB Snd cntL idn)
end Go.Proofs.Ytngpacdhpblpbaa
end
/- Block systems, the program: blocks by labels. -/
section
namespace Go.Proofs.Ytngpacdhpblpbaa
open Go.Av
set_option linter.unusedSimpArgs false
set_option linter.unusedVariables false
attribute [local irreducible] AWP CallG Ob Br BrP Go.Av.Sub endQ AOps OpV AC thenA blkA opsVC opVC withA withArgs opsQ opQ CallQ withA2 withArgs2
open Go.Pm (Pm ptI partI IsPart ixP Rsp rspI actP img invp mrg Lbl SL SB parts loR clsF clsN partK Cg MB Snd cntL idn)
theorem sub_inj {d i j : Nat} (hi : i < 1000) (hj : j < 1000) (h : sub d i = sub d j) : i = j := by
  have h1 := sub_mod (d := d) (i := i) (by rw [FB_eq]; omega)
  have h2 := sub_mod (d := d) (i := j) (by rw [FB_eq]; omega)
  rw [h, h2] at h1
  exact h1.symm
theorem getD_setL {P : List (List Int)} {i j : Nat} {a : List Int} (hi : i < P.length) : (P.set i a).getD j [] = if j = i then a else P.getD j [] := getD_set hi
end Go.Proofs.Ytngpacdhpblpbaa
end
