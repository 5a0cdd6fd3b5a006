import Derived.Test.YtngpacdhpblpbaaC15
import Derived.Test.YtngpacdhpblpbaaC5
import Derived.Test.YtngpacdhpblpbaaC4
import Derived.Test.YtngpacdhpblpbaaC11
/- Partitions and block systems, the program: the numbers of blocks. -/
section
namespace Go.Proofs.Ytngpacdhpblpbaa
open Go.Av
set_option linter.unusedSimpArgs false
set_option linter.unusedVariables false
attribute [local irreducible] AWP CallG Ob Br BrP Go.Av.Sub endQ AOps OpV AC thenA blkA opsVC opVC withA withArgs opsQ opQ CallQ withA2 withArgs2
open Go.Pm (Pm ptI partI IsPart ixP Rsp rspI actP img invp)
/-- Labels when what seenP lists has been met. -/
structure CL (n : Nat) (bs : List (List Int)) (i k : Nat) (L : List Int) : Prop where
  len : L.length = n
  past : ∀ j, j < i → blkI n bs j
  nd : (seenP bs i k).Nodup
  hit : ∀ x : Nat, (x : Int) ∈ seenP bs i k → ∃ j, j < bs.length ∧ (x : Int) ∈ bs.getD j [] ∧ L.getD x 0 = (j : Int)
  miss : ∀ x : Nat, x < n → (x : Int) ∉ seenP bs i k → L.getD x 0 = -1
noncomputable instance (n : Nat) (bs : List (List Int)) : Decidable (IsPart n bs) := Classical.propDecidable _
theorem rep_neg {n x : Nat} (hx : x < n) : (rep [-1] n).getD x 0 = -1 := by
  have : rep [-1] n = List.replicate n (-1) := by
    unfold rep
    induction n with
    | zero => rfl
    | succ n ih =>
      by_cases h : x < n
      · rw [List.replicate_succ, List.flatten_cons, ih h]; rfl
      · rw [List.replicate_succ, List.flatten_cons]
        have : ∀ m : Nat, (List.replicate m [(-1 : Int)]).flatten = List.replicate m (-1) := fun m => by
          induction m with
          | zero => rfl
          | succ m ih => rw [List.replicate_succ, List.flatten_cons, ih]; rfl
        rw [this]; rfl
  rw [this, List.getD_eq_getElem?_getD, List.getElem?_replicate, if_pos hx]; rfl
section
variable {n i k : Nat} {bs : List (List Int)} {L : List Int}
theorem CL.zero (n : Nat) (bs : List (List Int)) : CL n bs 0 0 (rep [-1] n) :=
  ⟨by rw [rep_length]; simp, fun _ h => absurd h (Nat.not_lt_zero _), by simp [seenP], fun x h => by simp [seenP] at h, fun x hx _ => rep_neg hx⟩
theorem CL.step (h : CL n bs i k L) (hi : i < bs.length) (hk : k < (bs.getD i []).length) {x : Nat} (e : (bs.getD i []).getD k 0 = (x : Int)) (hx : x < n) (hm : ¬ 0 ≤ L.getD x 0) : CL n bs i (k + 1) (L.set x (i : Int)) := by
  have hns : (x : Int) ∉ seenP bs i k := fun hc => by
    obtain ⟨j, _, _, e2⟩ := h.hit x hc
    omega
  have hlx : x < L.length := by rw [h.len]; exact hx
  have hmem : (x : Int) ∈ bs.getD i [] := by rw [← e]; exact Go.Pm.row_mem hk
  refine ⟨by rw [List.length_set]; exact h.len, h.past, ?_, fun y hy => ?_, fun y hy hn => ?_⟩
  · rw [seenP_succ hk, e, List.nodup_append]
    exact ⟨h.nd, by simp, fun a ha b hb e2 => by rw [List.mem_singleton] at hb; subst hb; subst e2; exact hns ha⟩
  · rw [getD_set hlx]
    rw [seenP_succ hk, e, List.mem_append, List.mem_singleton] at hy
    split
    · rename_i e2; subst e2; exact ⟨i, hi, hmem, rfl⟩
    · rename_i e2
      rcases hy with hy | hy
      · exact h.hit y hy
      · exact absurd (by omega) e2
  · rw [seenP_succ hk, e, List.mem_append, List.mem_singleton] at hn
    rw [getD_set hlx, if_neg (fun e2 => hn (.inr (by rw [e2])))]
    exact h.miss y hy fun hc => hn (.inl hc)
theorem CL.twice (h : CL n bs i k L) (hi : i < bs.length) (hk : k < (bs.getD i []).length) (hr : 0 ≤ (bs.getD i []).getD k 0 ∧ (bs.getD i []).getD k 0 ≤ (n : Int) - 1) (hm : 0 ≤ L.getD ((bs.getD i []).getD k 0).toNat 0) : ¬ IsPart n bs := fun hp => by
  obtain ⟨x, e⟩ : ∃ x : Nat, (bs.getD i []).getD k 0 = (x : Int) := ⟨((bs.getD i []).getD k 0).toNat, by omega⟩
  rw [e, Int.toNat_natCast] at hm
  have hs : (x : Int) ∈ seenP bs i k := Classical.byContradiction fun hc => by
    have := h.miss x (by omega) hc
    omega
  obtain ⟨R, eR⟩ := seenP_pre hi hk
  have hq := hp.nodup
  rw [eR, List.nodup_append, e] at hq
  exact hq.2.2 _ hs _ (List.mem_cons_self ..) rfl
theorem CL.next (h : CL n bs i (bs.getD i []).length L) (hi : i < bs.length) (hb : blkI n bs i) : CL n bs (i + 1) 0 L := by
  have e : seenP bs (i + 1) 0 = seenP bs i (bs.getD i []).length := by rw [seenP_next hi, seenP_zero]
  refine ⟨h.len, fun j hj => ?_, by rw [e]; exact h.nd, by rw [e]; exact h.hit, by rw [e]; exact h.miss⟩
  by_cases e2 : j = i
  · subst e2; exact hb
  · exact h.past j (by omega)
theorem CL.flat (h : CL n bs bs.length 0 L) : seenP bs bs.length 0 = bs.flatten := by rw [seenP_zero, List.take_length]
theorem CL.iff (h : CL n bs bs.length 0 L) : ¬ (-1 : Int) ∈ L ↔ IsPart n bs := by
  have hf := h.flat
  constructor
  · intro hc
    refine Go.Pm.partI_iff.1 ⟨h.past, by have := h.nd; rwa [hf] at this, ?_⟩
    have h1 := seenP_len (n := n) (by omega) (Nat.le_refl _) h.past (.inr rfl) h.nd
    have h2 := Go.Plain.nodup_le bs.flatten ((List.range n).map fun y : Nat => (y : Int)) (List.pairwise_map.2 (List.nodup_range.imp fun h e => h (by omega))) fun v hv => by
      obtain ⟨y, hy, rfl⟩ := List.mem_map.1 hv
      have hy := List.mem_range.1 hy
      refine Classical.byContradiction fun hn => ?_
      have e := h.miss y hy (by rw [hf]; exact hn)
      exact hc (by rw [← e]; exact Go.Pm.row_mem (by rw [h.len]; exact hy))
    rw [List.length_map, List.length_range] at h2
    rw [hf] at h1
    omega
  · intro hp hc
    obtain ⟨x, hx, e⟩ := List.getElem_of_mem hc
    have hxn : x < n := by rw [← h.len]; exact hx
    obtain ⟨j, hj, hm, _⟩ := Go.Pm.ixP_spec hp hxn
    obtain ⟨j2, _, _, e2⟩ := h.hit x (by rw [hf]; exact List.mem_flatten.2 ⟨_, Go.Pm.getD_mem (b := []) hj, hm⟩)
    rw [List.getD_eq_getElem?_getD, List.getElem?_eq_getElem hx] at e2
    have e2 : L[x] = (j2 : Int) := e2
    omega
theorem CL.ix (h : CL n bs bs.length 0 L) (hp : IsPart n bs) : L = ixP n bs := by
  have hf := h.flat
  refine eq_of_getD (by rw [h.len, Go.Pm.ixP_len]) fun x hx => ?_
  obtain ⟨j, hj, hm, _⟩ := Go.Pm.ixP_spec hp (x := x) (by rw [← h.len]; exact hx)
  obtain ⟨j2, hj2, hm2, e2⟩ := h.hit x (by rw [hf]; exact List.mem_flatten.2 ⟨_, Go.Pm.getD_mem (b := []) hj, hm⟩)
  rw [e2, Go.Pm.ixP_mem hp hj2 hm2]
end
theorem end_clNo {N : Cx} {A : Fr} {H : Hp} {fn : Func} {t u : Tmp} {n : Nat} {bs : List (List Int)} (hr : fn.results.toList = [.tmp t, .tmp u]) (htu : t ≠ u) (h4 : A.get t = some (.v (.slice none 0 0))) (h5 : A.get u = some (.v (.bool false))) (hn : ¬ IsPart n bs) :
    endQ Try.prog N fn (postX fun r => ∃ xs, r = .tup 2 (vecF [ints xs, .v (.bool (decide (IsPart n bs)))]) ∧ (IsPart n bs → xs = ixP n bs)) .ret A H :=
  end_X2 hr htu h4 h5 .nil (.refl _) ⟨[], by rw [decide_eq_false hn]; rfl, fun h => absurd h hn⟩
theorem classOf_ok (n : Nat) (bs : List (List Int)) (hn : 1 ≤ n ∧ n ≤ 20) (hl : bs.length ≤ 1000000) (hb : ∀ j, (bs.getD j []).length ≤ 1000000) : AC Try.prog 97 [.v (.int .i64 ((n : Nat))), intss bs] Hp.emp (fun _ => false) (postX fun r => ∃ xs, r = .tup 2 (vecF [ints xs, .v (.bool (decide (IsPart n bs)))]) ∧ (IsPart n bs → xs = ixP n bs)) := by
  have hb := Hold.mk hb
  refine ac_of_awp (N := ⟨_, fun _ => false, fun _ _ => rfl⟩) Try.func97 rfl (by kernel_rfl) Try.ntmps97 (by simp) ?_
  simp only [argsFr, List.zipIdx_cons, List.zipIdx_nil, go_sem]
  repeat' (first | refine awp_seqK fun K hK => ?_ | (refine awp_regionK 2361183275519683315699 rfl ?_; simp only [List.map_cons, List.map_nil]; simp (maxSteps := 1000000) (dsimp := false) (implicitDefEqProofs := false) (disch := omega) only [wrap64, go_sem]) | (refine awp_regionQK 2361183275519683315699 (by kernel_rfl) (by kernel_rfl) (by kernel_rfl) ?_; simp only [List.map_cons, List.map_nil]; simp (maxSteps := 1000000) (dsimp := false) (implicitDefEqProofs := false) (disch := omega) only [wrap64, go_sem]) | refine awp_block ?_ | (refine awp_skip ?_; simp only [go_sem]) | (refine awp_exit ?_; simp only [go_sem]) | (refine awp_ret ?_; try simp only [go_sem]) | (refine awp_condP rfl ?_; try simp only [go_sem]) | (refine BrP.mk (fun h => ?_) (fun h => ?_) <;> try simp (dsimp := false) (disch := omega) only [wrap64]) | (refine Br.mk (fun h => ?_) (fun h => ?_) <;> try simp (dsimp := false) (disch := omega) only [wrap64]) | refine Ob.mk (by first | omega | (intro _ _; rfl) | trivial | (intros; trivial) | assumption | (intro i hi; have h0 : i = 0 := (by omega); subst h0; first | rfl | trivial) | (intro i hi; have h0 : i = 0 ∨ i = 1 := (by omega); rcases h0 with rfl | rfl <;> rfl) | (intro i hi; have h0 : i = 0 ∨ i = 1 ∨ i = 2 := (by omega); rcases h0 with rfl | rfl | rfl <;> rfl)) ?_ | ((first | ((first | refine atF (f := 149) ?_ | refine atQ (f := 149) ?_); (first | (refine cI (hac := sliceRepeat_ok [-1] n (by simp) (by omega) (by simp; omega) 13) (hK := ?_)) | (refine cQI (hac := sliceRepeat_ok [-1] n (by simp) (by omega) (by simp; omega) 13) (hK := ?_))))); simp (maxSteps := 1000000) (dsimp := false) (implicitDefEqProofs := false) (disch := omega) only [wrap64, go_sem]) | apply_assumption -exfalso -symm)
  all_goals (first | (show endQ _ _ _ _ _ _ _; (repeat (rename (∀ (A : Fr) (H : Hp), AWP _ _ _ _ A H → _) => hK; clear hK)); (repeat (rename (Fr → Hp → Prop) => K; clear K))) | (show Exists _; (repeat (rename (∀ (A : Fr) (H : Hp), AWP _ _ _ _ A H → _) => hK; clear hK)); (repeat (rename (Fr → Hp → Prop) => K; clear K))) | skip)
  have hrl : (rep [-1] n).length = n := by rw [rep_length]; simp
  refine awp_loop (ι := Nat × List Int) (fun z => [(16, .v (.int .i64 ((z.1 : Nat)))), (15, .v (.int .i64 (bs.length))), (14, .list false 1 (bs).length (cM ints [] (bs))), (6, .own 13 0 1 n), (0, .v (.int .i64 ((n : Nat)))), (1, .list false 1 (bs).length (cM ints [] (bs)))]) (fun z => Hp.emp.upd 13 (.cells n (cM iv 0 z.2))) (fun z => z.1 ≤ bs.length ∧ Hold (CL n bs z.1 0 z.2)) (fun z => bs.length - z.1) (0, rep [-1] n) ⟨Nat.zero_le _, ⟨.zero n bs⟩⟩ (by rw [hrl]; exact Sub.toL (by simp only [go_sem] <;> first | trivial | (simp only [Option.some.injEq, AV.v.injEq, AV.own.injEq, AV.list.injEq, Value.int.injEq, Value.bool.injEq, true_and, and_true]; first | omega | (simp; done)) | (simp; done) | (simp; omega)) (by (repeat' (first | exact Hp.le_emp _ | exact Hp.le_refl _ | refine Hp.le_upd ?_ ?_)); all_goals (first | rfl | (simp only [go_sem]; first | rfl | (refine cellsE ?_ ?_ <;> (simp)) | (simp))))) ?_
  rintro ⟨i, L⟩ ⟨hi, hv⟩
  dsimp only at hi hv ⊢
  have hbi := hb.h i
  have hpv : 0 < i → 0 < (bs.getD ((i : Int) - 1).toNat []).length := fun h0 => by
    rw [show ((i : Int) - 1).toNat = i - 1 by omega]
    exact List.length_pos_iff.2 (hv.h.past (i - 1) (by omega)).1
  repeat' (first | refine awp_seqK fun K hK => ?_ | (refine awp_regionK 2361183275519683315699 rfl ?_; simp only [List.map_cons, List.map_nil]; simp (maxSteps := 1000000) (dsimp := false) (implicitDefEqProofs := false) (disch := omega) only [wrap64, go_sem, tn0]) | (refine awp_regionQK 2361183275519683315699 (by kernel_rfl) (by kernel_rfl) (by kernel_rfl) ?_; simp only [List.map_cons, List.map_nil]; simp (maxSteps := 1000000) (dsimp := false) (implicitDefEqProofs := false) (disch := omega) only [wrap64, go_sem, tn0]) | refine awp_block ?_ | (refine awp_skip ?_; simp only [go_sem, tn0]) | (refine awp_exit ?_; simp only [go_sem, tn0]) | (refine awp_ret ?_; try simp only [go_sem, tn0]) | (refine awp_condP rfl ?_; try simp only [go_sem, tn0]) | (refine BrP.mk (fun h => ?_) (fun h => ?_) <;> try simp (dsimp := false) (disch := omega) only [wrap64]) | (refine Br.mk (fun h => ?_) (fun h => ?_) <;> try simp (dsimp := false) (disch := omega) only [wrap64]) | refine Ob.mk (by first | omega | (intro _ _; rfl) | trivial | (intros; trivial) | assumption | (intro i hi; have h0 : i = 0 := (by omega); subst h0; first | rfl | trivial) | (intro i hi; have h0 : i = 0 ∨ i = 1 := (by omega); rcases h0 with rfl | rfl <;> rfl) | (intro i hi; have h0 : i = 0 ∨ i = 1 ∨ i = 2 := (by omega); rcases h0 with rfl | rfl | rfl <;> rfl)) ?_ | apply_assumption -exfalso -symm)
  all_goals (first | (show endQ _ _ _ _ _ _ _; (repeat (rename (∀ (A : Fr) (H : Hp), AWP _ _ _ _ A H → _) => hK; clear hK)); (repeat (rename (Fr → Hp → Prop) => K; clear K))) | (show Exists _; (repeat (rename (∀ (A : Fr) (H : Hp), AWP _ _ _ _ A H → _) => hK; clear hK)); (repeat (rename (Fr → Hp → Prop) => K; clear K))) | skip)
  · refine end_clNo rfl (by decide) rfl rfl fun hp => ?_
    have hc := Go.Pm.partI_iff.2 hp
    exact (hc.1 i (by omega)).1 (List.length_eq_zero_iff.1 (by omega))
  · refine end_clNo rfl (by decide) rfl rfl fun hp => ?_
    have hc := Go.Pm.partI_iff.2 hp
    have q := (hc.1 i (by omega)).2.2 (by omega)
    rw [show i - 1 = ((i : Int) - 1).toNat by omega] at q
    omega
  iterate 2
    · have hfst : Hold (0 < i → (bs.getD (i - 1) []).getD 0 0 < (bs.getD i []).getD 0 0) := ⟨fun h0 => by
        rw [show i - 1 = ((i : Int) - 1).toNat by omega]; omega⟩
      refine awp_loop (ι := Nat × List Int) (fun z => [(43, .v (.int .i64 ((z.1 : Nat)))), (42, .v (.int .i64 ((bs.getD i []).length))), (41, .list false 1 (bs.getD i []).length (cM iv 0 (bs.getD i []))), (8, .list false 1 (bs.getD i []).length (cM iv 0 (bs.getD i []))), (7, .v (.int .i64 ((i : Nat)))), (16, .v (.int .i64 ((i : Nat)))), (15, .v (.int .i64 (bs.length))), (14, .list false 1 (bs).length (cM ints [] (bs))), (6, .own 13 0 1 n), (0, .v (.int .i64 ((n : Nat)))), (1, .list false 1 (bs).length (cM ints [] (bs)))]) (fun z => Hp.emp.upd 13 (.cells n (cM iv 0 z.2))) (fun z => z.1 ≤ (bs.getD i []).length ∧ Hold (CL n bs i z.1 z.2) ∧ Hold (∀ k, k < z.1 → (0 ≤ (bs.getD i []).getD k 0 ∧ (bs.getD i []).getD k 0 ≤ (n : Int) - 1) ∧ (0 < k → (bs.getD i []).getD (k - 1) 0 < (bs.getD i []).getD k 0))) (fun z => (bs.getD i []).length - z.1) (0, L) ⟨Nat.zero_le _, hv, ⟨fun k h => absurd h (Nat.not_lt_zero _)⟩⟩ (Sub.toL (by simp only [go_sem] <;> first | trivial | (simp only [Option.some.injEq, AV.v.injEq, AV.own.injEq, AV.list.injEq, Value.int.injEq, Value.bool.injEq, true_and, and_true]; first | omega | (simp; done)) | (simp; done) | (simp; omega)) (Hp.le_refl _)) ?_
      clear hv L
      rintro ⟨k, L⟩ ⟨hk, hv, hw⟩
      dsimp only at hk hv hw ⊢
      have hll := hv.h.len
      repeat' (first | refine awp_seqK fun K hK => ?_ | (refine awp_regionK 2361183275519683315699 rfl ?_; simp only [List.map_cons, List.map_nil]; simp (maxSteps := 1000000) (dsimp := false) (implicitDefEqProofs := false) (disch := omega) only [wrap64, go_sem]) | (refine awp_regionQK 2361183275519683315699 (by kernel_rfl) (by kernel_rfl) (by kernel_rfl) ?_; simp only [List.map_cons, List.map_nil]; simp (maxSteps := 1000000) (dsimp := false) (implicitDefEqProofs := false) (disch := omega) only [wrap64, go_sem]) | refine awp_block ?_ | (refine awp_skip ?_; simp only [go_sem]) | (refine awp_exit ?_; simp only [go_sem]) | (refine awp_ret ?_; try simp only [go_sem]) | (refine awp_condP rfl ?_; try simp only [go_sem]) | (refine BrP.mk (fun h => ?_) (fun h => ?_) <;> try simp (dsimp := false) (disch := omega) only [wrap64]) | (refine Br.mk (fun h => ?_) (fun h => ?_) <;> try simp (dsimp := false) (disch := omega) only [wrap64]) | refine Ob.mk (by first | omega | (intro _ _; rfl) | trivial | (intros; trivial) | assumption | (intro i hi; have h0 : i = 0 := (by omega); subst h0; first | rfl | trivial) | (intro i hi; have h0 : i = 0 ∨ i = 1 := (by omega); rcases h0 with rfl | rfl <;> rfl) | (intro i hi; have h0 : i = 0 ∨ i = 1 ∨ i = 2 := (by omega); rcases h0 with rfl | rfl | rfl <;> rfl)) ?_ | ((first | ((first | refine atF (f := 92) ?_ | refine atQ (f := 92) ?_); (first | (refine cV (hac := isPoint_ok (n : Int) _ (by omega)) (hK := ?_)) | (refine cQV (hac := isPoint_ok (n : Int) _ (by omega)) (hK := ?_))))); simp (maxSteps := 1000000) (dsimp := false) (implicitDefEqProofs := false) (disch := omega) only [wrap64, go_sem]) | apply_assumption -exfalso -symm)
      all_goals (first | (show endQ _ _ _ _ _ _ _; (repeat (rename (∀ (A : Fr) (H : Hp), AWP _ _ _ _ A H → _) => hK; clear hK)); (repeat (rename (Fr → Hp → Prop) => K; clear K))) | (show Exists _; (repeat (rename (∀ (A : Fr) (H : Hp), AWP _ _ _ _ A H → _) => hK; clear hK)); (repeat (rename (Fr → Hp → Prop) => K; clear K))) | skip)
      · refine end_clNo rfl (by decide) rfl rfl fun hp => ?_
        have q := ((Go.Pm.partI_iff.2 hp).1 i (by omega)).2.1 k (by omega)
        have q2 := q.2 (by omega)
        rw [show k - 1 = ((k : Int) - 1).toNat by omega] at q2
        omega
      · exact end_clNo rfl (by decide) rfl rfl (hv.h.twice (by omega) (by omega) (by assumption) (by assumption))
      · obtain ⟨x, e⟩ : ∃ x : Nat, (bs.getD i []).getD k 0 = (x : Int) := ⟨((bs.getD i []).getD k 0).toNat, by omega⟩
        have hst := hv.h.step (by omega) (by omega) e (by omega) (by rw [show x = ((bs.getD i []).getD k 0).toNat by omega]; assumption)
        refine ⟨(k + 1, L.set x (i : Int)), ⟨by dsimp only; omega, ⟨hst⟩, ⟨fun j hj => ?_⟩⟩, by dsimp only; omega, ?_⟩
        · dsimp only at hj
          by_cases e2 : j = k
          · subst e2
            exact ⟨by assumption, fun _ => by rw [show j - 1 = ((j : Int) - 1).toNat by omega]; omega⟩
          · exact hw.h j (by omega)
        · dsimp only
          rw [show ((bs.getD i []).getD k 0).toNat = x by omega]
          exact Sub.toL (by simp only [go_sem] <;> first | trivial | (simp only [Option.some.injEq, AV.v.injEq, AV.own.injEq, AV.list.injEq, Value.int.injEq, Value.bool.injEq, true_and, and_true]; first | omega | (simp; done)) | (simp; done) | (simp; omega)) (by (repeat' (first | exact Hp.le_emp _ | exact Hp.le_refl _ | refine Hp.le_upd ?_ ?_)); all_goals (first | rfl | (simp only [go_sem]; first | rfl | (refine cellsE ?_ ?_ <;> (simp)) | (simp))))
      · exact end_clNo rfl (by decide) rfl rfl (hv.h.twice (by omega) (by omega) (by assumption) (by assumption))
      · obtain ⟨x, e⟩ : ∃ x : Nat, (bs.getD i []).getD k 0 = (x : Int) := ⟨((bs.getD i []).getD k 0).toNat, by omega⟩
        have hst := hv.h.step (by omega) (by omega) e (by omega) (by rw [show x = ((bs.getD i []).getD k 0).toNat by omega]; assumption)
        refine ⟨(k + 1, L.set x (i : Int)), ⟨by dsimp only; omega, ⟨hst⟩, ⟨fun j hj => ?_⟩⟩, by dsimp only; omega, ?_⟩
        · dsimp only at hj
          by_cases e2 : j = k
          · subst e2
            exact ⟨by assumption, fun _ => by omega⟩
          · exact hw.h j (by omega)
        · dsimp only
          rw [show ((bs.getD i []).getD k 0).toNat = x by omega]
          exact Sub.toL (by simp only [go_sem] <;> first | trivial | (simp only [Option.some.injEq, AV.v.injEq, AV.own.injEq, AV.list.injEq, Value.int.injEq, Value.bool.injEq, true_and, and_true]; first | omega | (simp; done)) | (simp; done) | (simp; omega)) (by (repeat' (first | exact Hp.le_emp _ | exact Hp.le_refl _ | refine Hp.le_upd ?_ ?_)); all_goals (first | rfl | (simp only [go_sem]; first | rfl | (refine cellsE ?_ ?_ <;> (simp)) | (simp))))
      · exact end_clNo rfl (by decide) rfl rfl fun hp => absurd (((Go.Pm.partI_iff.2 hp).1 i (by omega)).2.1 k (by omega)).1 (by assumption)
      · have ek : k = (bs.getD i []).length := by omega
        subst ek
        have hbk : blkI n bs i := ⟨fun e => by have : (bs.getD i []).length = 0 := (by rw [e]; rfl)
                                               omega, fun j hj => hw.h j hj, hfst.h⟩
        exact ⟨(i + 1, L), ⟨by dsimp only; omega, ⟨hv.h.next (by omega) hbk⟩⟩, by dsimp only; omega, Sub.toL (by simp only [go_sem] <;> first | trivial | (simp only [Option.some.injEq, AV.v.injEq, AV.own.injEq, AV.list.injEq, Value.int.injEq, Value.bool.injEq, true_and, and_true]; first | omega | (simp; done)) | (simp; done) | (simp; omega)) (Hp.le_refl _)⟩
  · have e : i = bs.length := by omega
    subst e
    have hll := hv.h.len
    have hif := Hold.mk hv.h.iff
    have hmm : ∀ b : Bool, b = !decide ((-1 : Int) ∈ L) → b = decide (IsPart n bs) := fun b e => by
      rw [e]
      by_cases h : (-1 : Int) ∈ L
      · rw [decide_eq_true h, decide_eq_false (fun hc => hif.h.2 hc h)]; rfl
      · rw [decide_eq_false h, decide_eq_true (hif.h.1 h)]; rfl
    have hmm := Hold.mk hmm
    subst hll
    repeat' (first | refine awp_seqK fun K hK => ?_ | (refine awp_regionK 2361183275519683315699 rfl ?_; simp only [List.map_cons, List.map_nil]; simp (maxSteps := 1000000) (dsimp := false) (implicitDefEqProofs := false) (disch := omega) only [wrap64, go_sem]) | (refine awp_regionQK 2361183275519683315699 (by kernel_rfl) (by kernel_rfl) (by kernel_rfl) ?_; simp only [List.map_cons, List.map_nil]; simp (maxSteps := 1000000) (dsimp := false) (implicitDefEqProofs := false) (disch := omega) only [wrap64, go_sem]) | refine awp_block ?_ | (refine awp_skip ?_; simp only [go_sem]) | (refine awp_exit ?_; simp only [go_sem]) | (refine awp_ret ?_; try simp only [go_sem]) | (refine awp_condP rfl ?_; try simp only [go_sem]) | (refine BrP.mk (fun h => ?_) (fun h => ?_) <;> try simp (dsimp := false) (disch := omega) only [wrap64]) | (refine Br.mk (fun h => ?_) (fun h => ?_) <;> try simp (dsimp := false) (disch := omega) only [wrap64]) | refine Ob.mk (by first | omega | (intro _ _; rfl) | trivial | (intros; trivial) | assumption | (intro i hi; have h0 : i = 0 := (by omega); subst h0; first | rfl | trivial) | (intro i hi; have h0 : i = 0 ∨ i = 1 := (by omega); rcases h0 with rfl | rfl <;> rfl) | (intro i hi; have h0 : i = 0 ∨ i = 1 ∨ i = 2 := (by omega); rcases h0 with rfl | rfl | rfl <;> rfl)) ?_ | ((first | ((first | refine atF (f := 150) ?_ | refine atQ (f := 150) ?_); (first | (refine cV (hac := containsI_ok L (-1) (by omega)) (hK := ?_)) | (refine cQV (hac := containsI_ok L (-1) (by omega)) (hK := ?_))))); simp (maxSteps := 1000000) (dsimp := false) (implicitDefEqProofs := false) (disch := omega) only [wrap64, go_sem]) | apply_assumption -exfalso -symm)
    all_goals (first | (show endQ _ _ _ _ _ _ _; (repeat (rename (∀ (A : Fr) (H : Hp), AWP _ _ _ _ A H → _) => hK; clear hK)); (repeat (rename (Fr → Hp → Prop) => K; clear K))) | (show Exists _; (repeat (rename (∀ (A : Fr) (H : Hp), AWP _ _ _ _ A H → _) => hK; clear hK)); (repeat (rename (Fr → Hp → Prop) => K; clear K))) | skip)
    refine end_X2 (b := ints L) rfl (by decide) rfl rfl ?_ (.refl _) ⟨L, ?_, hv.h.ix⟩
    · exact fits_I rfl trivial rfl rfl
    · rw [← hmm.h _ rfl]; rfl
theorem class_sc (n : Nat) (bs : List (List Int)) : ∀ r : AV, (∃ xs, r = .tup 2 (vecF [ints xs, .v (.bool (decide (IsPart n bs)))]) ∧ (IsPart n bs → xs = ixP n bs)) → ∀ p, r.scrub p = r := by
  rintro _ ⟨xs, rfl, _⟩ p
  simp only [scrub_tup, scF_vecF, List.map_cons, List.map_nil]; rfl
noncomputable instance (n : Nat) (g : List Int) (bs : List (List Int)) : Decidable (rspI n g bs) := Classical.propDecidable _
/-- What a permutation does to blocks, if it respects them. -/
theorem action_ok (n : Nat) (g : List Int) (bs : List (List Int)) (hn : 1 ≤ n ∧ n ≤ 20) (hp : IsPart n bs) (hg : Pm n g) : AC Try.prog 110 [ints g, intss bs, ints (ixP n bs)] Hp.emp (fun _ => false) (postX fun r => ∃ xs, r = .tup 2 (vecF [ints xs, .v (.bool (decide (Rsp n g bs)))]) ∧ (Rsp n g bs → xs = actP n bs g)) := by
  have hbl := hp.len
  have hgl := hg.1
  have hil := Go.Pm.ixP_len n bs
  have hp := Hold.mk hp
  have hg := Hold.mk hg
  have hal : ∀ k, k ≤ bs.length → ((actP n bs g).take k).length = k := fun k hk => by rw [List.length_take, Go.Pm.actP_len]; omega
  refine ac_of_awp (N := ⟨_, fun _ => false, fun _ _ => rfl⟩) Try.func110 rfl (by kernel_rfl) Try.ntmps110 (by simp) ?_
  simp only [argsFr, List.zipIdx_cons, List.zipIdx_nil, go_sem]
  repeat' (first | refine awp_seqK fun K hK => ?_ | (refine awp_regionK 8804146343367 rfl ?_; simp only [List.map_cons, List.map_nil]; simp (maxSteps := 1000000) (dsimp := false) (implicitDefEqProofs := false) (disch := omega) only [wrap64, go_sem]) | (refine awp_regionQK 8804146343367 (by kernel_rfl) (by kernel_rfl) (by kernel_rfl) ?_; simp only [List.map_cons, List.map_nil]; simp (maxSteps := 1000000) (dsimp := false) (implicitDefEqProofs := false) (disch := omega) only [wrap64, go_sem]) | refine awp_block ?_ | (refine awp_skip ?_; simp only [go_sem]) | (refine awp_exit ?_; simp only [go_sem]) | (refine awp_ret ?_; try simp only [go_sem]) | (refine awp_condP rfl ?_; try simp only [go_sem]) | (refine BrP.mk (fun h => ?_) (fun h => ?_) <;> try simp (dsimp := false) (disch := omega) only [wrap64]) | (refine Br.mk (fun h => ?_) (fun h => ?_) <;> try simp (dsimp := false) (disch := omega) only [wrap64]) | refine Ob.mk (by first | omega | (intro _ _; rfl) | trivial | (intros; trivial) | assumption | (intro i hi; have h0 : i = 0 := (by omega); subst h0; first | rfl | trivial) | (intro i hi; have h0 : i = 0 ∨ i = 1 := (by omega); rcases h0 with rfl | rfl <;> rfl) | (intro i hi; have h0 : i = 0 ∨ i = 1 ∨ i = 2 := (by omega); rcases h0 with rfl | rfl | rfl <;> rfl)) ?_ | apply_assumption -exfalso -symm)
  all_goals (first | (show endQ _ _ _ _ _ _ _; (repeat (rename (∀ (A : Fr) (H : Hp), AWP _ _ _ _ A H → _) => hK; clear hK)); (repeat (rename (Fr → Hp → Prop) => K; clear K))) | (show Exists _; (repeat (rename (∀ (A : Fr) (H : Hp), AWP _ _ _ _ A H → _) => hK; clear hK)); (repeat (rename (Fr → Hp → Prop) => K; clear K))) | skip)
  refine awp_loop (ι := Nat) (fun i => [(16, .v (.int .i64 ((i : Nat)))), (15, .v (.int .i64 (bs.length))), (14, .list false 1 (bs).length (cM ints [] (bs))), (8, .own 30 0 1 ((actP n bs g).take i).length), (0, .list false 1 (g).length (cM iv 0 (g))), (1, .list false 1 (bs).length (cM ints [] (bs))), (2, .list false 1 (ixP n bs).length (cM iv 0 (ixP n bs)))]) (fun i => Hp.emp.upd 30 (.cells ((actP n bs g).take i).length (cM iv 0 ((actP n bs g).take i)))) (fun i => i ≤ bs.length ∧ Hold (∀ j, j < i → ∀ k, k < (bs.getD j []).length → (ixP n bs).getD (img g ((bs.getD j []).getD k 0).toNat) 0 = (ixP n bs).getD (img g ((bs.getD j []).getD 0 0).toNat) 0)) (fun i => bs.length - i) 0 ⟨Nat.zero_le _, ⟨fun j h => absurd h (Nat.not_lt_zero _)⟩⟩ (Sub.trans (Sub.nil (i := 8) 30 1 (cM iv 0 []) rfl rfl) (Sub.toL (by simp only [go_sem] <;> first | trivial | (simp only [Option.some.injEq, AV.v.injEq, AV.own.injEq, AV.list.injEq, Value.int.injEq, Value.bool.injEq, true_and, and_true]; first | omega | (simp; done)) | (simp; done) | (simp; omega)) (by (repeat' (first | exact Hp.le_emp _ | exact Hp.le_refl _ | refine Hp.le_upd ?_ ?_)); all_goals (first | rfl | (simp only [go_sem]; first | rfl | (refine cellsE ?_ ?_ <;> (simp)) | (simp)))))) ?_
  rintro i ⟨hi, hv⟩
  have hbi := part_blk hp.h i
  have hent0 : i < bs.length → 0 < (bs.getD i []).length ∧ 0 ≤ (bs.getD i []).getD 0 0 ∧ (bs.getD i []).getD 0 0 < n ∧ 0 ≤ g.getD ((bs.getD i []).getD 0 0).toNat 0 ∧ g.getD ((bs.getD i []).getD 0 0).toNat 0 < n := fun h => by
    obtain ⟨x, e, hx, _⟩ := hp.h.entry h (hp.h.pos h)
    have h1 := hp.h.pos h
    have := hg.h.2.1 x hx
    rw [e, Int.toNat_natCast]
    omega
  have hali := hal i hi
  repeat' (first | refine awp_seqK fun K hK => ?_ | (refine awp_regionK 8804146343367 rfl ?_; simp only [List.map_cons, List.map_nil]; simp (maxSteps := 1000000) (dsimp := false) (implicitDefEqProofs := false) (disch := omega) only [wrap64, go_sem, tn0]) | (refine awp_regionQK 8804146343367 (by kernel_rfl) (by kernel_rfl) (by kernel_rfl) ?_; simp only [List.map_cons, List.map_nil]; simp (maxSteps := 1000000) (dsimp := false) (implicitDefEqProofs := false) (disch := omega) only [wrap64, go_sem, tn0]) | refine awp_block ?_ | (refine awp_skip ?_; simp only [go_sem, tn0]) | (refine awp_exit ?_; simp only [go_sem, tn0]) | (refine awp_ret ?_; try simp only [go_sem, tn0]) | (refine awp_condP rfl ?_; try simp only [go_sem, tn0]) | (refine BrP.mk (fun h => ?_) (fun h => ?_) <;> try simp (dsimp := false) (disch := omega) only [wrap64]) | (refine Br.mk (fun h => ?_) (fun h => ?_) <;> try simp (dsimp := false) (disch := omega) only [wrap64]) | refine Ob.mk (by first | omega | (intro _ _; rfl) | trivial | (intros; trivial) | assumption | (intro i hi; have h0 : i = 0 := (by omega); subst h0; first | rfl | trivial) | (intro i hi; have h0 : i = 0 ∨ i = 1 := (by omega); rcases h0 with rfl | rfl <;> rfl) | (intro i hi; have h0 : i = 0 ∨ i = 1 ∨ i = 2 := (by omega); rcases h0 with rfl | rfl | rfl <;> rfl)) ?_ | apply_assumption -exfalso -symm)
  all_goals (first | (show endQ _ _ _ _ _ _ _; (repeat (rename (∀ (A : Fr) (H : Hp), AWP _ _ _ _ A H → _) => hK; clear hK)); (repeat (rename (Fr → Hp → Prop) => K; clear K))) | (show Exists _; (repeat (rename (∀ (A : Fr) (H : Hp), AWP _ _ _ _ A H → _) => hK; clear hK)); (repeat (rename (Fr → Hp → Prop) => K; clear K))) | skip)
  · obtain ⟨c, ec⟩ : ∃ c, c = (ixP n bs).getD (g.getD ((bs.getD i []).getD 0 0).toNat 0).toNat 0 := ⟨_, rfl⟩
    rw [← ec]
    refine awp_loop (ι := Nat) (fun k => [(31, .v (.int .i64 ((k : Nat)))), (30, .v (.int .i64 ((bs.getD i []).length))), (29, .list false 1 (bs.getD i []).length (cM iv 0 (bs.getD i []))), (11, .v (.int .i64 (c))), (16, .v (.int .i64 ((i : Nat)))), (15, .v (.int .i64 (bs.length))), (14, .list false 1 (bs).length (cM ints [] (bs))), (8, .own 30 0 1 ((actP n bs g).take i).length), (0, .list false 1 (g).length (cM iv 0 (g))), (1, .list false 1 (bs).length (cM ints [] (bs))), (2, .list false 1 (ixP n bs).length (cM iv 0 (ixP n bs)))]) (fun _ => Hp.emp.upd 30 (.cells ((actP n bs g).take i).length (cM iv 0 ((actP n bs g).take i)))) (fun k => k ≤ (bs.getD i []).length ∧ Hold (∀ j, j < k → (ixP n bs).getD (img g ((bs.getD i []).getD j 0).toNat) 0 = c)) (fun k => (bs.getD i []).length - k) 0 ⟨Nat.zero_le _, ⟨fun j h => absurd h (Nat.not_lt_zero _)⟩⟩ (Sub.toL (by simp only [go_sem] <;> first | trivial | (simp only [Option.some.injEq, AV.v.injEq, AV.own.injEq, AV.list.injEq, Value.int.injEq, Value.bool.injEq, true_and, and_true]; first | omega | (simp; done)) | (simp; done) | (simp; omega)) (Hp.le_refl _)) ?_
    rintro k ⟨hk, hw⟩
    have hent : k < (bs.getD i []).length → 0 ≤ (bs.getD i []).getD k 0 ∧ (bs.getD i []).getD k 0 < n ∧ 0 ≤ g.getD ((bs.getD i []).getD k 0).toNat 0 ∧ g.getD ((bs.getD i []).getD k 0).toNat 0 < n := fun h => by
      obtain ⟨x, e, hx, _⟩ := hp.h.entry (i := i) (by omega) h
      have := hg.h.2.1 x hx
      rw [e, Int.toNat_natCast]
      omega
    repeat' (first | refine awp_seqK fun K hK => ?_ | (refine awp_regionK 8804146343367 rfl ?_; simp only [List.map_cons, List.map_nil]; simp (maxSteps := 1000000) (dsimp := false) (implicitDefEqProofs := false) (disch := omega) only [wrap64, go_sem, tn0]) | (refine awp_regionQK 8804146343367 (by kernel_rfl) (by kernel_rfl) (by kernel_rfl) ?_; simp only [List.map_cons, List.map_nil]; simp (maxSteps := 1000000) (dsimp := false) (implicitDefEqProofs := false) (disch := omega) only [wrap64, go_sem, tn0]) | refine awp_block ?_ | (refine awp_skip ?_; simp only [go_sem, tn0]) | (refine awp_exit ?_; simp only [go_sem, tn0]) | (refine awp_ret ?_; try simp only [go_sem, tn0]) | (refine awp_condP rfl ?_; try simp only [go_sem, tn0]) | (refine BrP.mk (fun h => ?_) (fun h => ?_) <;> try simp (dsimp := false) (disch := omega) only [wrap64]) | (refine Br.mk (fun h => ?_) (fun h => ?_) <;> try simp (dsimp := false) (disch := omega) only [wrap64]) | refine Ob.mk (by first | omega | (intro _ _; rfl) | trivial | (intros; trivial) | assumption | (intro i hi; have h0 : i = 0 := (by omega); subst h0; first | rfl | trivial) | (intro i hi; have h0 : i = 0 ∨ i = 1 := (by omega); rcases h0 with rfl | rfl <;> rfl) | (intro i hi; have h0 : i = 0 ∨ i = 1 ∨ i = 2 := (by omega); rcases h0 with rfl | rfl | rfl <;> rfl)) ?_ | apply_assumption -exfalso -symm)
    all_goals (first | (show endQ _ _ _ _ _ _ _; (repeat (rename (∀ (A : Fr) (H : Hp), AWP _ _ _ _ A H → _) => hK; clear hK)); (repeat (rename (Fr → Hp → Prop) => K; clear K))) | (show Exists _; (repeat (rename (∀ (A : Fr) (H : Hp), AWP _ _ _ _ A H → _) => hK; clear hK)); (repeat (rename (Fr → Hp → Prop) => K; clear K))) | skip)
    · refine ⟨k + 1, ⟨by omega, ⟨fun j hj => ?_⟩⟩, by omega, Sub.toL (by simp only [go_sem] <;> first | trivial | (simp only [Option.some.injEq, AV.v.injEq, AV.own.injEq, AV.list.injEq, Value.int.injEq, Value.bool.injEq, true_and, and_true]; first | omega | (simp; done)) | (simp; done) | (simp; omega)) (Hp.le_refl _)⟩
      by_cases e : j = k
      · subst e; unfold img; assumption
      · exact hw.h j (by omega)
    · have hnr : ¬ Rsp n g bs := fun hc => by
        have := (Go.Pm.rspI_iff hp.h hg.h).2 hc i (by omega) k (by omega)
        unfold img at this
        rw [← ec] at this
        contradiction
      exact end_X2 rfl (by decide) rfl rfl .nil (.refl _) ⟨[], by rw [decide_eq_false hnr]; rfl, fun h => absurd h hnr⟩
    · have ek : k = (bs.getD i []).length := by omega
      subst ek
      have e1 : (actP n bs g).take i ++ [c] = (actP n bs g).take (i + 1) := by
        have hil2 : i < (actP n bs g).length := by rw [Go.Pm.actP_len]; omega
        rw [List.take_succ_eq_append_getElem hil2]
        congr 2
        have := Go.Pm.actP_get (n := n) (bs := bs) (g := g) (i := i) (by omega)
        rw [List.getD_eq_getElem?_getD, List.getElem?_eq_getElem hil2] at this
        rw [ec]; exact this.symm
      have e2 : ((actP n bs g).take (i + 1)).length = ((actP n bs g).take i).length + 1 := by rw [← e1, List.length_append, List.length_singleton]
      refine ⟨i + 1, ⟨by omega, ⟨fun j hj => ?_⟩⟩, by omega, ?_⟩
      · by_cases e : j = i
        · subst e
          intro k hk
          rw [hw.h k hk, ec]; rfl
        · exact hv.h j (by omega)
      · rw [e2, ← e1]
        exact Sub.toL (by simp only [go_sem] <;> first | trivial | (simp only [Option.some.injEq, AV.v.injEq, AV.own.injEq, AV.list.injEq, Value.int.injEq, Value.bool.injEq, true_and, and_true]; first | omega | (simp; done)) | (simp; done) | (simp; omega)) (by (repeat' (first | exact Hp.le_emp _ | exact Hp.le_refl _ | refine Hp.le_upd ?_ ?_)); all_goals (first | rfl | (simp only [go_sem]; first | rfl | (refine cellsE ?_ ?_ <;> (simp)) | (simp))))
  · have ei : i = bs.length := by omega
    subst ei
    have ea : (actP n bs g).take bs.length = actP n bs g := by rw [← Go.Pm.actP_len n bs g, List.take_length]
    have hrsp : Rsp n g bs := (Go.Pm.rspI_iff hp.h hg.h).1 fun j hj => hv.h j hj
    have hpm := Go.Pm.actP_pm hp.h hg.h hrsp
    have hlb : 1 ≤ bs.length := by
      obtain ⟨b, hb, _⟩ := hp.h.all 0 (by omega)
      exact List.length_pos_of_mem hb
    have hper : isPerm (actP n bs g) := (isPerm_pm _).2 ⟨by rw [hpm.1]; omega, by rw [hpm.1]; exact hpm⟩
    have hdp : decide (isPerm (actP n bs g)) = true := decide_eq_true hper
    have hrsp := Hold.mk hrsp
    rw [ea]
    repeat' (first | refine awp_seqK fun K hK => ?_ | (refine awp_regionK 8804146343367 rfl ?_; simp only [List.map_cons, List.map_nil]; simp (maxSteps := 1000000) (dsimp := false) (implicitDefEqProofs := false) (disch := omega) only [wrap64, go_sem, hdp]) | (refine awp_regionQK 8804146343367 (by kernel_rfl) (by kernel_rfl) (by kernel_rfl) ?_; simp only [List.map_cons, List.map_nil]; simp (maxSteps := 1000000) (dsimp := false) (implicitDefEqProofs := false) (disch := omega) only [wrap64, go_sem, hdp]) | refine awp_block ?_ | (refine awp_skip ?_; simp only [go_sem, hdp]) | (refine awp_exit ?_; simp only [go_sem, hdp]) | (refine awp_ret ?_; try simp only [go_sem, hdp]) | (refine awp_condP rfl ?_; try simp only [go_sem, hdp]) | (refine BrP.mk (fun h => ?_) (fun h => ?_) <;> try simp (dsimp := false) (disch := omega) only [wrap64]) | (refine Br.mk (fun h => ?_) (fun h => ?_) <;> try simp (dsimp := false) (disch := omega) only [wrap64]) | refine Ob.mk (by first | omega | (intro _ _; rfl) | trivial | (intros; trivial) | assumption | (intro i hi; have h0 : i = 0 := (by omega); subst h0; first | rfl | trivial) | (intro i hi; have h0 : i = 0 ∨ i = 1 := (by omega); rcases h0 with rfl | rfl <;> rfl) | (intro i hi; have h0 : i = 0 ∨ i = 1 ∨ i = 2 := (by omega); rcases h0 with rfl | rfl | rfl <;> rfl)) ?_ | ((first | ((first | refine atF (f := 78) ?_ | refine atQ (f := 78) ?_); (first | (refine cV (hac := implIsPermutation_ok (actP n bs g)) (hK := ?_)) | (refine cQV (hac := implIsPermutation_ok (actP n bs g)) (hK := ?_))))); simp (maxSteps := 1000000) (dsimp := false) (implicitDefEqProofs := false) (disch := omega) only [wrap64, go_sem, hdp]) | apply_assumption -exfalso -symm)
    all_goals (first | (show endQ _ _ _ _ _ _ _; (repeat (rename (∀ (A : Fr) (H : Hp), AWP _ _ _ _ A H → _) => hK; clear hK)); (repeat (rename (Fr → Hp → Prop) => K; clear K))) | (show Exists _; (repeat (rename (∀ (A : Fr) (H : Hp), AWP _ _ _ _ A H → _) => hK; clear hK)); (repeat (rename (Fr → Hp → Prop) => K; clear K))) | skip)
    refine end_X2 (b := ints (actP n bs g)) rfl (by decide) rfl rfl ?_ (.refl _) ⟨actP n bs g, by rw [decide_eq_true hrsp.h]; rfl, fun _ => rfl⟩
    exact fits_I rfl trivial rfl rfl
theorem action_sc (n : Nat) (g : List Int) (bs : List (List Int)) : ∀ r : AV, (∃ xs, r = .tup 2 (vecF [ints xs, .v (.bool (decide (Rsp n g bs)))]) ∧ (Rsp n g bs → xs = actP n bs g)) → ∀ p, r.scrub p = r := by
  rintro _ ⟨xs, rfl, _⟩ p
  simp only [scrub_tup, scF_vecF, List.map_cons, List.map_nil]; rfl
/-- The permutations of blocks by the first k generators. -/
noncomputable def acts (n : Nat) (bs gs : List (List Int)) (k : Nat) : List (List Int) := (gs.take k).map (actP n bs)
theorem acts_len (n : Nat) (bs gs : List (List Int)) (k : Nat) (hk : k ≤ gs.length) : (acts n bs gs k).length = k := by unfold acts; rw [List.length_map, List.length_take]; omega
theorem acts_succ (n : Nat) (bs gs : List (List Int)) (k : Nat) (hk : k < gs.length) : acts n bs gs (k + 1) = acts n bs gs k ++ [actP n bs (gs.getD k [])] := by
  unfold acts
  rw [List.take_succ_eq_append_getElem hk, List.map_append]
  simp [hk]
theorem acts_all (n : Nat) (bs gs : List (List Int)) : acts n bs gs gs.length = gs.map (actP n bs) := by unfold acts; rw [List.take_length]
/-- What BlockAction answers. -/
noncomputable def baP (n : Int) (gs bs : List (List Int)) : List (List Int) := if isBS n gs bs then gs.map (actP n.toNat bs) else []
theorem implBlockAction_ok (n : Int) (gs bs : List (List Int)) (hl : bs.length ≤ 1000000) (hb : ∀ j, (bs.getD j []).length ≤ 1000000) : AC Try.prog 45 [.v (.int .i64 (n)), intss gs, intss bs] Hp.emp (fun _ => false) (retV (.tup 2 (vecF [intss (baP n gs bs), .v (.bool (decide (isBS n gs bs)))]))) := by
  by_cases hok : isGens n gs
  · have hd : decide (isGens n gs) = true := decide_eq_true hok
    obtain ⟨h1, h2, h3⟩ := gens_pm hok
    have hgl := hok.2.1
    have h1 := Hold.mk h1
    have hb := Hold.mk hb
    have hn : ((n.toNat : Nat) : Int) = n := by omega
    have hcl := classOf_ok n.toNat bs (by omega) hl hb.h
    rw [hn] at hcl
    by_cases hp : IsPart n.toNat bs
    · have hdp : decide (IsPart n.toNat bs) = true := decide_eq_true hp
      have hp := Hold.mk hp
      refine ac_of_awp (N := ⟨_, fun _ => false, fun _ _ => rfl⟩) Try.func45 rfl (by kernel_rfl) Try.ntmps45 (by simp) ?_
      simp only [argsFr, List.zipIdx_cons, List.zipIdx_nil, go_sem]
      repeat' (first | ((first | refine atF (f := 97) ?_ | refine atQ (f := 97) ?_); (refine callX hcl (class_sc n.toNat bs) (fun r hq => ?_); obtain ⟨cl, rfl, hcx⟩ := hq) <;> simp (maxSteps := 1000000) (dsimp := false) (implicitDefEqProofs := false) (disch := omega) only [wrap64, go_sem, hd, hdp]) | refine awp_seqK fun K hK => ?_ | (refine awp_regionK 2201103923143 rfl ?_; simp only [List.map_cons, List.map_nil]; simp (maxSteps := 1000000) (dsimp := false) (implicitDefEqProofs := false) (disch := omega) only [wrap64, go_sem, hd, hdp]) | (refine awp_regionQK 2201103923143 (by kernel_rfl) (by kernel_rfl) (by kernel_rfl) ?_; simp only [List.map_cons, List.map_nil]; simp (maxSteps := 1000000) (dsimp := false) (implicitDefEqProofs := false) (disch := omega) only [wrap64, go_sem, hd, hdp]) | refine awp_block ?_ | (refine awp_skip ?_; simp only [go_sem, hd, hdp]) | (refine awp_exit ?_; simp only [go_sem, hd, hdp]) | (refine awp_ret ?_; try simp only [go_sem, hd, hdp]) | (refine awp_condP rfl ?_; try simp only [go_sem, hd, hdp]) | (refine BrP.mk (fun h => ?_) (fun h => ?_) <;> try simp (dsimp := false) (disch := omega) only [wrap64]) | (refine Br.mk (fun h => ?_) (fun h => ?_) <;> try simp (dsimp := false) (disch := omega) only [wrap64]) | refine Ob.mk (by first | omega | (intro _ _; rfl) | trivial | (intros; trivial) | assumption | (intro i hi; have h0 : i = 0 := (by omega); subst h0; first | rfl | trivial) | (intro i hi; have h0 : i = 0 ∨ i = 1 := (by omega); rcases h0 with rfl | rfl <;> rfl) | (intro i hi; have h0 : i = 0 ∨ i = 1 ∨ i = 2 := (by omega); rcases h0 with rfl | rfl | rfl <;> rfl)) ?_ | ((first | ((first | refine atF (f := 76) ?_ | refine atQ (f := 76) ?_); (first | (refine cV (hac := implIsGeneratorSet_ok n gs) (hK := ?_)) | (refine cQV (hac := implIsGeneratorSet_ok n gs) (hK := ?_))))); simp (maxSteps := 1000000) (dsimp := false) (implicitDefEqProofs := false) (disch := omega) only [wrap64, go_sem, hd, hdp]) | apply_assumption -exfalso -symm)
      all_goals (first | (show endQ _ _ _ _ _ _ _; (repeat (rename (∀ (A : Fr) (H : Hp), AWP _ _ _ _ A H → _) => hK; clear hK)); (repeat (rename (Fr → Hp → Prop) => K; clear K))) | (show Exists _; (repeat (rename (∀ (A : Fr) (H : Hp), AWP _ _ _ _ A H → _) => hK; clear hK)); (repeat (rename (Fr → Hp → Prop) => K; clear K))) | skip)
      rw [hcx hp.h]
      refine awp_loop (ι := Nat) (fun k => [(29, .v (.int .i64 ((k : Nat)))), (28, .v (.int .i64 (gs.length))), (27, .list false 1 (gs).length (cM ints [] (gs))), (10, .own 30 0 1 k), (8, .list false 1 (ixP n.toNat bs).length (cM iv 0 (ixP n.toNat bs))), (2, .list false 1 (bs).length (cM ints [] (bs)))]) (fun k => Hp.emp.upd 30 (.cells k (cM ints [] (acts n.toNat bs gs k)))) (fun k => k ≤ gs.length ∧ Hold (∀ j, j < k → Rsp n.toNat (gs.getD j []) bs)) (fun k => gs.length - k) 0 ⟨Nat.zero_le _, ⟨fun j h => absurd h (Nat.not_lt_zero _)⟩⟩ ?_ ?_
      · exact Sub.trans (Sub.nil (i := 10) 30 1 (cM ints [] []) rfl rfl) (Sub.toFF (fun _ => False) (Fr.fit_cons rfl (.refl _) (Fr.fit_cons rfl (.refl _) (Fr.fit_cons rfl (.refl _) (Fr.fit_cons rfl (.refl _) (Fr.fit_cons rfl (.refl _) (Fr.fit_cons rfl (.refl _) (Fr.fit_nil _))))))) (leF_upd rfl (bfE rfl (fun i hi => absurd hi (Nat.not_lt_zero _))) leF_emp id))
      rintro k ⟨hk, hv⟩
      have hal := acts_len n.toNat bs gs k hk
      have hac := Hold.mk (fun h : k < gs.length => action_ok n.toNat (gs.getD k []) bs (by omega) hp.h (h1.h _ (by rw [List.getD_eq_getElem?_getD, List.getElem?_eq_getElem h]; exact List.getElem_mem h)))
      by_cases hr : Rsp n.toNat (gs.getD k []) bs
      · have hdr : decide (Rsp n.toNat (gs.getD k []) bs) = true := decide_eq_true hr
        have hr := Hold.mk hr
        repeat' (first | (show False; omega) | ((first | refine atF (f := 110) ?_ | refine atQ (f := 110) ?_); (refine callX (hac.h (by omega)) (action_sc n.toNat (gs.getD k []) bs) (fun r hq => ?_); obtain ⟨ac, rfl, hax⟩ := hq) <;> simp (maxSteps := 1000000) (dsimp := false) (implicitDefEqProofs := false) (disch := omega) only [wrap64, go_sem, hdr]) | refine awp_seqK fun K hK => ?_ | (refine awp_regionK 2201103923143 rfl ?_; simp only [List.map_cons, List.map_nil]; simp (maxSteps := 1000000) (dsimp := false) (implicitDefEqProofs := false) (disch := omega) only [wrap64, go_sem, hdr]) | (refine awp_regionQK 2201103923143 (by kernel_rfl) (by kernel_rfl) (by kernel_rfl) ?_; simp only [List.map_cons, List.map_nil]; simp (maxSteps := 1000000) (dsimp := false) (implicitDefEqProofs := false) (disch := omega) only [wrap64, go_sem, hdr]) | refine awp_block ?_ | (refine awp_skip ?_; simp only [go_sem, hdr]) | (refine awp_exit ?_; simp only [go_sem, hdr]) | (refine awp_ret ?_; try simp only [go_sem, hdr]) | (refine awp_condP rfl ?_; try simp only [go_sem, hdr]) | (refine BrP.mk (fun h => ?_) (fun h => ?_) <;> try simp (dsimp := false) (disch := omega) only [wrap64]) | (refine Br.mk (fun h => ?_) (fun h => ?_) <;> try simp (dsimp := false) (disch := omega) only [wrap64]) | refine Ob.mk (by first | omega | (intro _ _; rfl) | trivial | (intros; trivial) | assumption | (intro i hi; have h0 : i = 0 := (by omega); subst h0; first | rfl | trivial) | (intro i hi; have h0 : i = 0 ∨ i = 1 := (by omega); rcases h0 with rfl | rfl <;> rfl) | (intro i hi; have h0 : i = 0 ∨ i = 1 ∨ i = 2 := (by omega); rcases h0 with rfl | rfl | rfl <;> rfl)) ?_ | apply_assumption -exfalso -symm)
        all_goals (first | (show endQ _ _ _ _ _ _ _; (repeat (rename (∀ (A : Fr) (H : Hp), AWP _ _ _ _ A H → _) => hK; clear hK)); (repeat (rename (Fr → Hp → Prop) => K; clear K))) | (show Exists _; (repeat (rename (∀ (A : Fr) (H : Hp), AWP _ _ _ _ A H → _) => hK; clear hK)); (repeat (rename (Fr → Hp → Prop) => K; clear K))) | skip)
        · refine ⟨k + 1, ⟨by omega, ⟨fun j hj => ?_⟩⟩, by omega, ?_⟩
          · by_cases e : j = k
            · subst e; exact hr.h
            · exact hv.h j (by omega)
          · rw [hax hr.h]
            refine Sub.toFF (fun _ => False) (Fr.fit_cons rfl (.refl _) (Fr.fit_cons rfl (.refl _) (Fr.fit_cons rfl (.refl _) (Fr.fit_cons rfl (.refl _) (Fr.fit_cons rfl (.refl _) (Fr.fit_cons rfl (.refl _) (Fr.fit_nil _))))))) (leF_upd rfl (bfE rfl (fun i hi => ?_)) leF_emp id)
            rw [acts_succ n.toNat bs gs k (by omega)]
            have := ap_ints (acts n.toNat bs gs k) (actP n.toNat bs (gs.getD k [])) i (by omega)
            rw [hal] at this
            exact this
        · have ek : k = gs.length := by omega
          have hbs : isBS n gs bs := ⟨hok, hp.h, fun j hj => hv.h j (by omega)⟩
          rw [show baP n gs bs = acts n.toNat bs gs gs.length from (if_pos hbs).trans (acts_all _ _ _).symm, decide_eq_true hbs, ← ek]
          refine end_T2 rfl (by decide) rfl rfl ?_ (.refl _)
          exact fits_II rfl trivial rfl hal.symm
      · have hdr : decide (Rsp n.toNat (gs.getD k []) bs) = false := decide_eq_false hr
        have hr := Hold.mk hr
        repeat' (first | (show False; omega) | ((first | refine atF (f := 110) ?_ | refine atQ (f := 110) ?_); (refine callX (hac.h (by omega)) (action_sc n.toNat (gs.getD k []) bs) (fun r hq => ?_); obtain ⟨ac, rfl, hax⟩ := hq) <;> simp (maxSteps := 1000000) (dsimp := false) (implicitDefEqProofs := false) (disch := omega) only [wrap64, go_sem, hdr]) | refine awp_seqK fun K hK => ?_ | (refine awp_regionK 2201103923143 rfl ?_; simp only [List.map_cons, List.map_nil]; simp (maxSteps := 1000000) (dsimp := false) (implicitDefEqProofs := false) (disch := omega) only [wrap64, go_sem, hdr]) | (refine awp_regionQK 2201103923143 (by kernel_rfl) (by kernel_rfl) (by kernel_rfl) ?_; simp only [List.map_cons, List.map_nil]; simp (maxSteps := 1000000) (dsimp := false) (implicitDefEqProofs := false) (disch := omega) only [wrap64, go_sem, hdr]) | refine awp_block ?_ | (refine awp_skip ?_; simp only [go_sem, hdr]) | (refine awp_exit ?_; simp only [go_sem, hdr]) | (refine awp_ret ?_; try simp only [go_sem, hdr]) | (refine awp_condP rfl ?_; try simp only [go_sem, hdr]) | (refine BrP.mk (fun h => ?_) (fun h => ?_) <;> try simp (dsimp := false) (disch := omega) only [wrap64]) | (refine Br.mk (fun h => ?_) (fun h => ?_) <;> try simp (dsimp := false) (disch := omega) only [wrap64]) | refine Ob.mk (by first | omega | (intro _ _; rfl) | trivial | (intros; trivial) | assumption | (intro i hi; have h0 : i = 0 := (by omega); subst h0; first | rfl | trivial) | (intro i hi; have h0 : i = 0 ∨ i = 1 := (by omega); rcases h0 with rfl | rfl <;> rfl) | (intro i hi; have h0 : i = 0 ∨ i = 1 ∨ i = 2 := (by omega); rcases h0 with rfl | rfl | rfl <;> rfl)) ?_ | apply_assumption -exfalso -symm)
        all_goals (first | (show endQ _ _ _ _ _ _ _; (repeat (rename (∀ (A : Fr) (H : Hp), AWP _ _ _ _ A H → _) => hK; clear hK)); (repeat (rename (Fr → Hp → Prop) => K; clear K))) | (show Exists _; (repeat (rename (∀ (A : Fr) (H : Hp), AWP _ _ _ _ A H → _) => hK; clear hK)); (repeat (rename (Fr → Hp → Prop) => K; clear K))) | skip)
        · have hbs : ¬ isBS n gs bs := fun h => hr.h (h.2.2 k (by omega))
          rw [decide_eq_false hbs, show baP n gs bs = [] from if_neg hbs]
          exact end_T2 rfl (by decide) rfl rfl .nil (.refl _)
        · have ek : k = gs.length := by omega
          have hbs : isBS n gs bs := ⟨hok, hp.h, fun j hj => hv.h j (by omega)⟩
          rw [show baP n gs bs = acts n.toNat bs gs gs.length from (if_pos hbs).trans (acts_all _ _ _).symm, decide_eq_true hbs, ← ek]
          refine end_T2 rfl (by decide) rfl rfl ?_ (.refl _)
          exact fits_II rfl trivial rfl hal.symm
    · have hdp : decide (IsPart n.toNat bs) = false := decide_eq_false hp
      have hdb : decide (isBS n gs bs) = false := decide_eq_false fun h => hp h.2.1
      rw [hdb, show baP n gs bs = [] from if_neg fun h => hp h.2.1]
      refine ac_of_awp (N := ⟨_, fun _ => false, fun _ _ => rfl⟩) Try.func45 rfl (by kernel_rfl) Try.ntmps45 (by simp) ?_
      simp only [argsFr, List.zipIdx_cons, List.zipIdx_nil, go_sem]
      repeat' (first | ((first | refine atF (f := 97) ?_ | refine atQ (f := 97) ?_); (refine callX hcl (class_sc n.toNat bs) (fun r hq => ?_); obtain ⟨cl, rfl, hcx⟩ := hq) <;> simp (maxSteps := 1000000) (dsimp := false) (implicitDefEqProofs := false) (disch := omega) only [wrap64, go_sem, hd, hdp]) | refine awp_seqK fun K hK => ?_ | (refine awp_regionK 2201103923143 rfl ?_; simp only [List.map_cons, List.map_nil]; simp (maxSteps := 1000000) (dsimp := false) (implicitDefEqProofs := false) (disch := omega) only [wrap64, go_sem, hd, hdp]) | (refine awp_regionQK 2201103923143 (by kernel_rfl) (by kernel_rfl) (by kernel_rfl) ?_; simp only [List.map_cons, List.map_nil]; simp (maxSteps := 1000000) (dsimp := false) (implicitDefEqProofs := false) (disch := omega) only [wrap64, go_sem, hd, hdp]) | refine awp_block ?_ | (refine awp_skip ?_; simp only [go_sem, hd, hdp]) | (refine awp_exit ?_; simp only [go_sem, hd, hdp]) | (refine awp_ret ?_; try simp only [go_sem, hd, hdp]) | (refine awp_condP rfl ?_; try simp only [go_sem, hd, hdp]) | (refine BrP.mk (fun h => ?_) (fun h => ?_) <;> try simp (dsimp := false) (disch := omega) only [wrap64]) | (refine Br.mk (fun h => ?_) (fun h => ?_) <;> try simp (dsimp := false) (disch := omega) only [wrap64]) | refine Ob.mk (by first | omega | (intro _ _; rfl) | trivial | (intros; trivial) | assumption | (intro i hi; have h0 : i = 0 := (by omega); subst h0; first | rfl | trivial) | (intro i hi; have h0 : i = 0 ∨ i = 1 := (by omega); rcases h0 with rfl | rfl <;> rfl) | (intro i hi; have h0 : i = 0 ∨ i = 1 ∨ i = 2 := (by omega); rcases h0 with rfl | rfl | rfl <;> rfl)) ?_ | ((first | ((first | refine atF (f := 76) ?_ | refine atQ (f := 76) ?_); (first | (refine cV (hac := implIsGeneratorSet_ok n gs) (hK := ?_)) | (refine cQV (hac := implIsGeneratorSet_ok n gs) (hK := ?_))))); simp (maxSteps := 1000000) (dsimp := false) (implicitDefEqProofs := false) (disch := omega) only [wrap64, go_sem, hd, hdp]) | apply_assumption -exfalso -symm)
      all_goals (first | (show endQ _ _ _ _ _ _ _; (repeat (rename (∀ (A : Fr) (H : Hp), AWP _ _ _ _ A H → _) => hK; clear hK)); (repeat (rename (Fr → Hp → Prop) => K; clear K))) | (show Exists _; (repeat (rename (∀ (A : Fr) (H : Hp), AWP _ _ _ _ A H → _) => hK; clear hK)); (repeat (rename (Fr → Hp → Prop) => K; clear K))) | skip)
      exact end_T2 rfl (by decide) rfl rfl .nil (.refl _)
  · have hd : decide (isGens n gs) = false := decide_eq_false hok
    have hdb : decide (isBS n gs bs) = false := decide_eq_false fun h => hok h.1
    rw [hdb, show baP n gs bs = [] from if_neg fun h => hok h.1]
    refine ac_of_awp (N := ⟨_, fun _ => false, fun _ _ => rfl⟩) Try.func45 rfl (by kernel_rfl) Try.ntmps45 (by simp) ?_
    simp only [argsFr, List.zipIdx_cons, List.zipIdx_nil, go_sem]
    repeat' (first | refine awp_seqK fun K hK => ?_ | (refine awp_regionK 2201103923143 rfl ?_; simp only [List.map_cons, List.map_nil]; simp (maxSteps := 1000000) (dsimp := false) (implicitDefEqProofs := false) (disch := omega) only [wrap64, go_sem, hd]) | (refine awp_regionQK 2201103923143 (by kernel_rfl) (by kernel_rfl) (by kernel_rfl) ?_; simp only [List.map_cons, List.map_nil]; simp (maxSteps := 1000000) (dsimp := false) (implicitDefEqProofs := false) (disch := omega) only [wrap64, go_sem, hd]) | refine awp_block ?_ | (refine awp_skip ?_; simp only [go_sem, hd]) | (refine awp_exit ?_; simp only [go_sem, hd]) | (refine awp_ret ?_; try simp only [go_sem, hd]) | (refine awp_condP rfl ?_; try simp only [go_sem, hd]) | (refine BrP.mk (fun h => ?_) (fun h => ?_) <;> try simp (dsimp := false) (disch := omega) only [wrap64]) | (refine Br.mk (fun h => ?_) (fun h => ?_) <;> try simp (dsimp := false) (disch := omega) only [wrap64]) | refine Ob.mk (by first | omega | (intro _ _; rfl) | trivial | (intros; trivial) | assumption | (intro i hi; have h0 : i = 0 := (by omega); subst h0; first | rfl | trivial) | (intro i hi; have h0 : i = 0 ∨ i = 1 := (by omega); rcases h0 with rfl | rfl <;> rfl) | (intro i hi; have h0 : i = 0 ∨ i = 1 ∨ i = 2 := (by omega); rcases h0 with rfl | rfl | rfl <;> rfl)) ?_ | ((first | ((first | refine atF (f := 76) ?_ | refine atQ (f := 76) ?_); (first | (refine cV (hac := implIsGeneratorSet_ok n gs) (hK := ?_)) | (refine cQV (hac := implIsGeneratorSet_ok n gs) (hK := ?_))))); simp (maxSteps := 1000000) (dsimp := false) (implicitDefEqProofs := false) (disch := omega) only [wrap64, go_sem, hd]) | apply_assumption -exfalso -symm)
    all_goals (first | (show endQ _ _ _ _ _ _ _; (repeat (rename (∀ (A : Fr) (H : Hp), AWP _ _ _ _ A H → _) => hK; clear hK)); (repeat (rename (Fr → Hp → Prop) => K; clear K))) | (show Exists _; (repeat (rename (∀ (A : Fr) (H : Hp), AWP _ _ _ _ A H → _) => hK; clear hK)); (repeat (rename (Fr → Hp → Prop) => K; clear K))) | skip)
    exact end_T2 rfl (by decide) rfl rfl .nil (.refl _)
theorem baT_scrub (p : Nat → Bool) (a : List (List Int)) (b : Bool) : (AV.tup 2 (vecF [intss a, .v (.bool (b))])).scrub p = .tup 2 (vecF [intss a, .v (.bool (b))]) := by
  simp only [scrub_tup, scF_vecF, List.map_cons, List.map_nil]; rfl
theorem implIsBlockSystem_ok (n : Int) (gs bs : List (List Int)) (hl : bs.length ≤ 1000000) (hb : ∀ j, (bs.getD j []).length ≤ 1000000) : AC Try.prog 31 [.v (.int .i64 (n)), intss gs, intss bs] Hp.emp (fun _ => false) (retV (.v (.bool (decide (isBS n gs bs))))) := by
  have hb := Hold.mk hb
  refine ac_of_awp (N := ⟨_, fun _ => false, fun _ _ => rfl⟩) Try.func31 rfl (by kernel_rfl) Try.ntmps31 (by simp) ?_
  simp only [argsFr, List.zipIdx_cons, List.zipIdx_nil, go_sem]
  repeat' (first | refine awp_seqK fun K hK => ?_ | (refine awp_regionK 327 rfl ?_; simp only [List.map_cons, List.map_nil]; simp (maxSteps := 1000000) (dsimp := false) (implicitDefEqProofs := false) (disch := omega) only [wrap64, go_sem]) | (refine awp_regionQK 327 (by kernel_rfl) (by kernel_rfl) (by kernel_rfl) ?_; simp only [List.map_cons, List.map_nil]; simp (maxSteps := 1000000) (dsimp := false) (implicitDefEqProofs := false) (disch := omega) only [wrap64, go_sem]) | refine awp_block ?_ | (refine awp_skip ?_; simp only [go_sem]) | (refine awp_exit ?_; simp only [go_sem]) | (refine awp_ret ?_; try simp only [go_sem]) | (refine awp_condP rfl ?_; try simp only [go_sem]) | (refine BrP.mk (fun h => ?_) (fun h => ?_) <;> try simp (dsimp := false) (disch := omega) only [wrap64]) | (refine Br.mk (fun h => ?_) (fun h => ?_) <;> try simp (dsimp := false) (disch := omega) only [wrap64]) | refine Ob.mk (by first | omega | (intro _ _; rfl) | trivial | (intros; trivial) | assumption | (intro i hi; have h0 : i = 0 := (by omega); subst h0; first | rfl | trivial) | (intro i hi; have h0 : i = 0 ∨ i = 1 := (by omega); rcases h0 with rfl | rfl <;> rfl) | (intro i hi; have h0 : i = 0 ∨ i = 1 ∨ i = 2 := (by omega); rcases h0 with rfl | rfl | rfl <;> rfl)) ?_ | ((first | ((first | refine atF (f := 45) ?_ | refine atQ (f := 45) ?_); (refine cR (hac := implBlockAction_ok n gs bs hl hb.h) (hK := ?_) (hs := baT_scrub _ _ _)))); simp (maxSteps := 1000000) (dsimp := false) (implicitDefEqProofs := false) (disch := omega) only [wrap64, go_sem]) | apply_assumption -exfalso -symm)
  all_goals (first | (show endQ _ _ _ _ _ _ _; (repeat (rename (∀ (A : Fr) (H : Hp), AWP _ _ _ _ A H → _) => hK; clear hK)); (repeat (rename (Fr → Hp → Prop) => K; clear K))) | (show Exists _; (repeat (rename (∀ (A : Fr) (H : Hp), AWP _ _ _ _ A H → _) => hK; clear hK)); (repeat (rename (Fr → Hp → Prop) => K; clear K))) | skip)
  exact end_retV rfl rfl
end Go.Proofs.Ytngpacdhpblpbaa
end
/- Block systems, the program: merging labels. -/
section
namespace Go.Proofs.Ytngpacdhpblpbaa
open Go.Av
set_option linter.unusedSimpArgs false
set_option linter.unusedVariables false
attribute [local irreducible] AWP CallG Ob Br BrP Go.Av.Sub endQ AOps OpV AC thenA blkA opsVC opVC withA withArgs opsQ opQ CallQ withA2 withArgs2
open Go.Pm (Pm ptI partI IsPart ixP Rsp rspI actP img invp mrg Lbl SL SB parts loR clsF clsN partK Cg MB Snd cntL idn)
theorem merge_ok (L : List Int) (a b : Int) (hl : L.length ≤ 1000000) (h : Nat) : AC Try.prog 100 [.own h 0 1 L.length, .v (.int .i64 (a)), .v (.int .i64 (b))] (Hp.emp.upd h (.cells L.length (cM iv 0 L))) (· == h) (postM h (.v (.bool (!decide (a = b)))) (.cells L.length (cM iv 0 (mrg L (min a b) (max a b))))) := by
  refine AC.any (h0 := 1000000) ?_ _ (fun _ => rfl) (fun _ => rfl) (fun _ => rfl) (fun _ => rfl)
  refine ac_of_awp (N := ⟨_, (· == 1000000), fun h hh => beq_eq_false_iff_ne.2 (Nat.ne_of_lt (Nat.lt_of_lt_of_le hh (by decide)))⟩) Try.func100 rfl (by kernel_rfl) Try.ntmps100 (by simp) ?_
  simp only [argsFr, List.zipIdx_cons, List.zipIdx_nil, go_sem]
  repeat' (first | refine awp_seqK fun K hK => ?_ | (refine awp_regionK 8418503 rfl ?_; simp only [List.map_cons, List.map_nil]; simp (maxSteps := 1000000) (dsimp := false) (implicitDefEqProofs := false) (disch := omega) only [wrap64, go_sem]) | (refine awp_regionQK 8418503 (by kernel_rfl) (by kernel_rfl) (by kernel_rfl) ?_; simp only [List.map_cons, List.map_nil]; simp (maxSteps := 1000000) (dsimp := false) (implicitDefEqProofs := false) (disch := omega) only [wrap64, go_sem]) | refine awp_block ?_ | (refine awp_skip ?_; simp only [go_sem]) | (refine awp_exit ?_; simp only [go_sem]) | (refine awp_ret ?_; try simp only [go_sem]) | (refine awp_condP rfl ?_; try simp only [go_sem]) | (refine BrP.mk (fun h => ?_) (fun h => ?_) <;> try simp (dsimp := false) (disch := omega) only [wrap64]) | (refine Br.mk (fun h => ?_) (fun h => ?_) <;> try simp (dsimp := false) (disch := omega) only [wrap64]) | refine Ob.mk (by first | omega | (intro _ _; rfl) | trivial | (intros; trivial) | assumption | (intro i hi; have h0 : i = 0 := (by omega); subst h0; first | rfl | trivial) | (intro i hi; have h0 : i = 0 ∨ i = 1 := (by omega); rcases h0 with rfl | rfl <;> rfl) | (intro i hi; have h0 : i = 0 ∨ i = 1 ∨ i = 2 := (by omega); rcases h0 with rfl | rfl | rfl <;> rfl)) ?_ | apply_assumption -exfalso -symm)
  all_goals (first | (show endQ _ _ _ _ _ _ _; (repeat (rename (∀ (A : Fr) (H : Hp), AWP _ _ _ _ A H → _) => hK; clear hK)); (repeat (rename (Fr → Hp → Prop) => K; clear K))) | (show Exists _; (repeat (rename (∀ (A : Fr) (H : Hp), AWP _ _ _ _ A H → _) => hK; clear hK)); (repeat (rename (Fr → Hp → Prop) => K; clear K))) | skip)
  · rename_i e
    refine end_M rfl rfl ?_ ?_
    · have e : mrg L (min a b) (max a b) = L := by
        have : min a b = max a b := by omega
        rw [this, Go.Pm.mrg_same]
      rw [e]; simp [Hp.upd]
    · rw [decide_eq_true (by assumption)]; rfl
  refine awp_loop (ι := Nat × List Int) (fun z => [(13, .v (.int .i64 ((z.1 : Nat)))), (12, .v (.int .i64 (L.length))), (0, .own 1000000 0 1 L.length), (1, .v (.int .i64 (a))), (2, .v (.int .i64 (b)))]) (fun z => Hp.emp.upd 1000000 (.cells L.length (cM iv 0 z.2))) (fun z => z.1 ≤ L.length ∧ z.2.length = L.length ∧ Hold (∀ i, i < L.length → z.2.getD i 0 = if i < z.1 ∧ L.getD i 0 = max a b then min a b else L.getD i 0)) (fun z => L.length - z.1) (0, L) ⟨Nat.zero_le _, rfl, ⟨fun i hi => by simp⟩⟩ (Sub.toL (by simp only [go_sem] <;> first | trivial | (simp only [Option.some.injEq, AV.v.injEq, AV.own.injEq, AV.list.injEq, Value.int.injEq, Value.bool.injEq, true_and, and_true]; first | omega | (simp; done)) | (simp; done) | (simp; omega)) (Hp.le_refl _)) ?_
  rintro ⟨k, out⟩ ⟨hk, ho, hv⟩
  dsimp only at hk ho hv ⊢
  have hk0 : k < L.length → out.getD k 0 = L.getD k 0 := fun h => by rw [hv.h k h, if_neg (by omega)]
  repeat' (first | refine awp_seqK fun K hK => ?_ | (refine awp_regionK 8418503 rfl ?_; simp only [List.map_cons, List.map_nil]; simp (maxSteps := 1000000) (dsimp := false) (implicitDefEqProofs := false) (disch := omega) only [wrap64, go_sem, hk0]) | (refine awp_regionQK 8418503 (by kernel_rfl) (by kernel_rfl) (by kernel_rfl) ?_; simp only [List.map_cons, List.map_nil]; simp (maxSteps := 1000000) (dsimp := false) (implicitDefEqProofs := false) (disch := omega) only [wrap64, go_sem, hk0]) | refine awp_block ?_ | (refine awp_skip ?_; simp only [go_sem, hk0]) | (refine awp_exit ?_; simp only [go_sem, hk0]) | (refine awp_ret ?_; try simp only [go_sem, hk0]) | (refine awp_condP rfl ?_; try simp only [go_sem, hk0]) | (refine BrP.mk (fun h => ?_) (fun h => ?_) <;> try simp (dsimp := false) (disch := omega) only [wrap64]) | (refine Br.mk (fun h => ?_) (fun h => ?_) <;> try simp (dsimp := false) (disch := omega) only [wrap64]) | refine Ob.mk (by first | omega | (intro _ _; rfl) | trivial | (intros; trivial) | assumption | (intro i hi; have h0 : i = 0 := (by omega); subst h0; first | rfl | trivial) | (intro i hi; have h0 : i = 0 ∨ i = 1 := (by omega); rcases h0 with rfl | rfl <;> rfl) | (intro i hi; have h0 : i = 0 ∨ i = 1 ∨ i = 2 := (by omega); rcases h0 with rfl | rfl | rfl <;> rfl)) ?_ | apply_assumption -exfalso -symm)
  all_goals (first | (show endQ _ _ _ _ _ _ _; (repeat (rename (∀ (A : Fr) (H : Hp), AWP _ _ _ _ A H → _) => hK; clear hK)); (repeat (rename (Fr → Hp → Prop) => K; clear K))) | (show Exists _; (repeat (rename (∀ (A : Fr) (H : Hp), AWP _ _ _ _ A H → _) => hK; clear hK)); (repeat (rename (Fr → Hp → Prop) => K; clear K))) | skip)
  · refine ⟨(k + 1, out.set k (min a b)), ⟨by dsimp only; omega, by dsimp only; rw [List.length_set]; exact ho, ⟨fun i hi => ?_⟩⟩, by dsimp only; omega, ?_⟩
    · dsimp only
      rw [getD_set (by omega)]
      by_cases e : i = k
      · subst e; rw [if_pos rfl, if_pos ⟨by omega, by assumption⟩]
      · rw [if_neg e, hv.h i hi]
        have : (i < k ∧ L.getD i 0 = max a b) ↔ (i < k + 1 ∧ L.getD i 0 = max a b) := ⟨fun h => ⟨by omega, h.2⟩, fun h => ⟨by omega, h.2⟩⟩
        simp only [this]
    · dsimp only
      exact Sub.toL (by simp only [go_sem] <;> first | trivial | (simp only [Option.some.injEq, AV.v.injEq, AV.own.injEq, AV.list.injEq, Value.int.injEq, Value.bool.injEq, true_and, and_true]; first | omega | (simp; done)) | (simp; done) | (simp; omega)) (Hp.le_refl _)
  · refine ⟨(k + 1, out), ⟨by dsimp only; omega, ho, ⟨fun i hi => ?_⟩⟩, by dsimp only; omega, Sub.toL (by simp only [go_sem] <;> first | trivial | (simp only [Option.some.injEq, AV.v.injEq, AV.own.injEq, AV.list.injEq, Value.int.injEq, Value.bool.injEq, true_and, and_true]; first | omega | (simp; done)) | (simp; done) | (simp; omega)) (Hp.le_refl _)⟩
    dsimp only
    rw [hv.h i hi]
    by_cases e : i = k
    · subst e; rw [if_neg (by omega), if_neg (fun h => by have := h.2; contradiction)]
    · have : (i < k ∧ L.getD i 0 = max a b) ↔ (i < k + 1 ∧ L.getD i 0 = max a b) := ⟨fun h => ⟨by omega, h.2⟩, fun h => ⟨by omega, h.2⟩⟩
      simp only [this]
  · have e : out = mrg L (min a b) (max a b) := by
      refine eq_of_getD (by rw [ho, Go.Pm.mrg_length]) fun i hi => ?_
      rw [hv.h i (by omega), Go.Pm.mrg_get _ _ _ (by omega)]
      simp only [show i < k by omega, true_and]
    refine end_M rfl rfl ?_ ?_
    · rw [e]; simp [Hp.upd]
    · rw [decide_eq_false (by assumption)]; rfl
end Go.Proofs.Ytngpacdhpblpbaa
end
/- Block systems, the program: blocks by labels. -/
section
namespace Go.Proofs.Ytngpacdhpblpbaa
open Go.Av
set_option linter.unusedSimpArgs false
set_option linter.unusedVariables false
attribute [local irreducible] AWP CallG Ob Br BrP Go.Av.Sub endQ AOps OpV AC thenA blkA opsVC opVC withA withArgs opsQ opQ CallQ withA2 withArgs2
open Go.Pm (Pm ptI partI IsPart ixP Rsp rspI actP img invp mrg Lbl SL SB parts loR clsF clsN partK Cg MB Snd cntL idn)
theorem subb {d i h : Nat} (hh : h < 1000000) : (sub d i == h) = false := beq_eq_false_iff_ne.2 fun e => by have := sub_ge d i; rw [FB_eq] at this; omega
theorem sube {d i h : Nat} (hh : h < 1000000) : (sub d i = h) = False := eq_false fun e => by have := sub_ge d i; rw [FB_eq] at this; omega
theorem subc {d i h : Nat} (hh : h < 1000000) : (h == sub d i) = false := beq_eq_false_iff_ne.2 fun e => by have := sub_ge d i; rw [FB_eq] at this; omega
theorem subd {d i h : Nat} (hh : h < 1000000) : (h = sub d i) = False := eq_false fun e => by have := sub_ge d i; rw [FB_eq] at this; omega
theorem apF_self (n : Nat) (f g : Nat → AV) : apF n f g n = g 0 := by unfold apF; rw [if_neg (Nat.lt_irrefl _), Nat.sub_self]
/-- The least points of the labels below x. -/
noncomputable def reps (L : List Int) (x : Nat) : List Nat := (List.range x).filter (loR (SL L))
/-- The numbers of the labels met. -/
noncomputable def mpL (L : List Int) : Nat → List (Int × Int)
  | 0 => []
  | x + 1 => if loR (SL L) x = true then mpL L x ++ [(L.getD x 0, ((mpL L x).length : Int))] else mpL L x
theorem reps_succ (L : List Int) (x : Nat) : reps L (x + 1) = if loR (SL L) x = true then reps L x ++ [x] else reps L x := by
  unfold reps
  rw [List.range_succ, List.filter_append]
  by_cases h : loR (SL L) x = true
  · rw [if_pos h]; simp [h]
  · rw [if_neg h]; simp [h]
theorem mpL_len (L : List Int) : ∀ x, (mpL L x).length = (reps L x).length
  | 0 => rfl
  | x + 1 => by
    rw [reps_succ]
    unfold mpL
    have := mpL_len L x
    split
    · rw [List.length_append, List.length_append, List.length_singleton, List.length_singleton, this]
    · exact this
theorem reps_len (L : List Int) (x : Nat) : (reps L x).length = (parts (SL L) x).length := by unfold reps parts partK; rw [List.length_map]
theorem mpL_mem (L : List Int) : ∀ (x : Nat) (e : Int × Int), e ∈ mpL L x → ∃ j, j < (reps L x).length ∧ e = (L.getD ((reps L x).getD j 0) 0, (j : Int))
  | 0, e, h => by cases h
  | x + 1, e, h => by
    have ih := mpL_mem L x e
    have hl := mpL_len L x
    rw [reps_succ]
    unfold mpL at h
    split at h
    · rename_i hl2
      rw [if_pos hl2]
      rcases List.mem_append.1 h with h | h
      · obtain ⟨j, hj, e1⟩ := ih h
        exact ⟨j, by rw [List.length_append]; omega, by rw [e1]; simp [List.getD_eq_getElem?_getD, List.getElem?_append, hj]⟩
      · rw [List.mem_singleton] at h
        refine ⟨(reps L x).length, by simp, ?_⟩
        rw [h, hl]; simp [List.getD_eq_getElem?_getD]
    · rename_i hl2
      rw [if_neg hl2]; exact ih h
theorem mpL_in (L : List Int) : ∀ (x j : Nat), j < (reps L x).length → (L.getD ((reps L x).getD j 0) 0, (j : Int)) ∈ mpL L x
  | 0, j, h => absurd h (Nat.not_lt_zero _)
  | x + 1, j, h => by
    have ih := mpL_in L x j
    have hl := mpL_len L x
    rw [reps_succ] at h ⊢
    unfold mpL
    split
    · rename_i hl2
      rw [if_pos hl2] at h
      rw [List.length_append, List.length_singleton] at h
      by_cases e : j < (reps L x).length
      · have := ih e
        rw [show (reps L x ++ [x]).getD j 0 = (reps L x).getD j 0 from (by simp [List.getD_eq_getElem?_getD, List.getElem?_append, e])]
        exact List.mem_append_left _ this
      · have : j = (reps L x).length := by omega
        subst this
        refine List.mem_append_right _ ?_
        rw [List.mem_singleton, hl]; simp [List.getD_eq_getElem?_getD]
    · rename_i hl2
      rw [if_neg hl2] at h
      exact ih h
theorem lkI_none {α : Type} {s : Int} : ∀ {l : List (Int × α)}, (∀ e ∈ l, e.1 ≠ s) → lkI s l = none
  | [], _ => rfl
  | (k, a) :: r, h => by
    have h1 := h (k, a) (List.mem_cons_self ..)
    have ih := lkI_none (s := s) (l := r) fun e he => h e (List.mem_cons_of_mem _ he)
    have hb : (s == k) = false := beq_eq_false_iff_ne.2 (Ne.symm h1)
    simp only [lkI, hb, cond_false]; exact ih
theorem lkI_some {α : Type} {s : Int} {a : α} : ∀ {l : List (Int × α)}, (s, a) ∈ l → ∃ b, lkI s l = some b ∧ (s, b) ∈ l
  | (k, c) :: r, h => by
    simp only [lkI]
    by_cases e : k = s
    · subst e; exact ⟨c, by simp, List.mem_cons_self ..⟩
    · have hr : (s, a) ∈ r := by
        rcases List.mem_cons.1 h with h | h
        · simp only [Prod.mk.injEq] at h; exact absurd h.1.symm e
        · exact h
      obtain ⟨b, h1, h2⟩ := lkI_some hr
      have hb : (s == k) = false := beq_eq_false_iff_ne.2 (Ne.symm e)
      exact ⟨b, by rw [hb, cond_false]; exact h1, List.mem_cons_of_mem _ h2⟩
/-- What the map tells of the label of x. -/
theorem mpL_new {L : List Int} {x : Nat} (hl : loR (SL L) x = true) : lkI (L.getD x 0) (mpL L x) = none := lkI_none fun e he h => by
  obtain ⟨j, hj, e1⟩ := mpL_mem L x e he
  have hm : (reps L x).getD j 0 ∈ reps L x := by rw [List.getD_eq_getElem?_getD, List.getElem?_eq_getElem hj]; exact List.getElem_mem hj
  obtain ⟨y, ey⟩ : ∃ y, y = (reps L x).getD j 0 := ⟨_, rfl⟩
  rw [← ey] at hm e1
  unfold reps at hm
  rw [List.mem_filter, List.mem_range] at hm
  rw [e1] at h
  exact (Go.Pm.loR_iff _ _).1 hl y hm.1 h
theorem mpL_old {L : List Int} {x : Nat} (hl : ¬ loR (SL L) x = true) : ∃ i, i < (reps L x).length ∧ lkI (L.getD x 0) (mpL L x) = some (i : Int) ∧ SL L ((reps L x).getD i 0) x := by
  have hE := Go.Pm.SL.eqv (x + 1) L
  obtain ⟨y, hy, hl2, hr⟩ := hE.lo (Nat.lt_succ_self x)
  have hne : y ≠ x := fun e => hl (e ▸ hl2)
  have hm : y ∈ reps L x := by unfold reps; rw [List.mem_filter, List.mem_range]; exact ⟨by omega, hl2⟩
  obtain ⟨j, hj, e⟩ := List.getElem_of_mem hm
  have h1 := mpL_in L x j hj
  have e2 : (reps L x).getD j 0 = y := by rw [List.getD_eq_getElem?_getD, List.getElem?_eq_getElem hj]; exact e
  rw [e2, show L.getD y 0 = L.getD x 0 from hr] at h1
  obtain ⟨b, h2, h3⟩ := lkI_some h1
  obtain ⟨i, hi, e3⟩ := mpL_mem L x _ h3
  simp only [Prod.mk.injEq] at e3
  exact ⟨i, hi, by rw [h2, e3.2], e3.1.symm⟩
theorem sub_inj {d i j : Nat} (hi : i < 1000) (hj : j < 1000) (h : sub d i = sub d j) : i = j := by
  have h1 := sub_mod (d := d) (i := i) (by rw [FB_eq]; omega)
  have h2 := sub_mod (d := d) (i := j) (by rw [FB_eq]; omega)
  rw [h, h2] at h1
  exact h1.symm
theorem PR_some {d k n g : Nat} {xss : List (List Int)} {B : Blk} (hd : d < 2097152) (h : PR d xss k n g = some B) : (g = d ∧ B = .cells n (mixF d xss k)) ∨ ∃ j, j < k ∧ g = sub d j ∧ B = .cells (xss.getD j []).length (cM iv 0 (xss.getD j [])) := by
  unfold PR at h
  split at h
  · rename_i e; simp only [Option.some.injEq] at h; exact .inl ⟨e, h.symm⟩
  · split at h
    · rename_i e
      simp only [Option.some.injEq] at h
      refine .inr ⟨g % FB, e.2, ?_, h.symm⟩
      unfold sub
      have h1 := Nat.div_add_mod g FB
      have h2 : FB * (d + 1) = (d + 1) * FB := Nat.mul_comm _ _
      rw [e.1] at h1
      omega
    · cases h
theorem getD_setL {P : List (List Int)} {i j : Nat} {a : List Int} (hi : i < P.length) : (P.set i a).getD j [] = if j = i then a else P.getD j [] := getD_set hi
/-- A row of a family has grown by one. -/
theorem le_gro {P : List (List Int)} {i : Nat} {x : Int} {kv : List (Int × Int)} {Z : Blk} (hi : i < P.length) (hP : P.length ≤ 1000) :
    Hp.le ((PR 30 (P.set i (P.getD i [] ++ [x])) P.length P.length).add (Hp.emp.upd 9 (.mp (mI iv kv)))) ((((Hp.scrub (fun x => x == sub 30 i) ((PR 30 P P.length P.length).add (Hp.emp.upd 9 (.mp (mI iv kv))))).upd 40 Z).upd (sub 30 i) (.cells ((P.getD i []).length + 1) (cM iv 0 (P.getD i [] ++ [x])))).upd 30 (.cells P.length (setF (scF (fun x => x == sub 30 i) (mixF 30 P P.length)) i (.own (sub 30 i) 0 1 ((P.getD i []).length + 1))))) := by
  have s30 : ∀ j, sub 30 j ≠ 30 ∧ sub 30 j ≠ 40 ∧ sub 30 j ≠ 9 := fun j => by have := sub_ge 30 j; rw [FB_eq] at this; omega
  refine le_addU ?_ fun g B hg => ?_
  · have h1 : (9 : Nat) ≠ sub 30 i := fun e => (s30 i).2.2 e.symm
    simp only [Hp.upd, if_neg h1]
    unfold Hp.scrub
    rw [show ((PR 30 P P.length P.length).add (Hp.emp.upd 9 (.mp (mI iv kv)))) 9 = some (.mp (mI iv kv)) from (add_lit (by decide) (by decide)).trans rfl]
    simp only [Option.map_some, Blk.scrub, mI_scrub_iv]
    rfl
  · rcases PR_some (by decide) hg with ⟨rfl, rfl⟩ | ⟨j, hj, rfl, rfl⟩
    · simp only [Hp.upd, if_true]
      congr 2
      funext j
      show (if j = i then _ else (mixF 30 P P.length j).scrub _) = _
      unfold mixF
      by_cases e : j = i
      · subst e
        rw [if_pos rfl, if_pos hi, getD_setL hi, if_pos rfl, List.length_append, List.length_singleton]
      · rw [if_neg e, getD_setL hi, if_neg e]
        by_cases hjl : j < P.length
        · rw [if_pos hjl]
          have : (sub 30 j == sub 30 i) = false := beq_eq_false_iff_ne.2 fun h => e (sub_inj (by omega) (by omega) h)
          simp only [AV.scrub, this, Bool.false_eq_true, if_false]
        · rw [if_neg hjl]; rfl
    · obtain ⟨n1, n2, n3⟩ := s30 j
      by_cases e : j = i
      · subst e
        simp only [Hp.upd, if_neg n1, if_true]
        rw [getD_setL hi, if_pos rfl, List.length_append, List.length_singleton]
      · have n4 : sub 30 j ≠ sub 30 i := fun h => e (sub_inj (by omega) (by omega) h)
        simp only [Hp.upd, if_neg n1, if_neg n2, if_neg n4]
        unfold Hp.scrub
        rw [add_sub (by rw [FB_eq]; omega) hj (by rw [FB_eq]; omega), getD_setL hi, if_neg e]
        simp only [Option.map_some, Blk.scrub]
        congr 2
theorem partition_ok (L : List Int) (hl : L.length ≤ 20) : AC Try.prog 101 [ints L] Hp.emp (fun _ => false) (retV (intss (parts (SL L) L.length))) := by
  refine ac_of_awp (N := ⟨_, fun _ => false, fun _ _ => rfl⟩) Try.func101 rfl (by kernel_rfl) Try.ntmps101 (by simp) ?_
  simp only [argsFr, List.zipIdx_cons, List.zipIdx_nil, go_sem]
  repeat' (first | refine awp_seqK fun K hK => ?_ | (refine awp_regionK 16793085 rfl ?_; simp only [List.map_cons, List.map_nil]; simp (maxSteps := 1000000) (dsimp := false) (implicitDefEqProofs := false) (disch := omega) only [wrap64, go_sem]) | (refine awp_regionQK 16793085 (by kernel_rfl) (by kernel_rfl) (by kernel_rfl) ?_; simp only [List.map_cons, List.map_nil]; simp (maxSteps := 1000000) (dsimp := false) (implicitDefEqProofs := false) (disch := omega) only [wrap64, go_sem]) | refine awp_block ?_ | (refine awp_skip ?_; simp only [go_sem]) | (refine awp_exit ?_; simp only [go_sem]) | (refine awp_ret ?_; try simp only [go_sem]) | (refine awp_condP rfl ?_; try simp only [go_sem]) | (refine BrP.mk (fun h => ?_) (fun h => ?_) <;> try simp (dsimp := false) (disch := omega) only [wrap64]) | (refine Br.mk (fun h => ?_) (fun h => ?_) <;> try simp (dsimp := false) (disch := omega) only [wrap64]) | refine Ob.mk (by first | omega | (intro _ _; rfl) | trivial | (intros; trivial) | assumption | (intro i hi; have h0 : i = 0 := (by omega); subst h0; first | rfl | trivial) | (intro i hi; have h0 : i = 0 ∨ i = 1 := (by omega); rcases h0 with rfl | rfl <;> rfl) | (intro i hi; have h0 : i = 0 ∨ i = 1 ∨ i = 2 := (by omega); rcases h0 with rfl | rfl | rfl <;> rfl)) ?_ | apply_assumption -exfalso -symm)
  all_goals (first | (show endQ _ _ _ _ _ _ _; (repeat (rename (∀ (A : Fr) (H : Hp), AWP _ _ _ _ A H → _) => hK; clear hK)); (repeat (rename (Fr → Hp → Prop) => K; clear K))) | (show Exists _; (repeat (rename (∀ (A : Fr) (H : Hp), AWP _ _ _ _ A H → _) => hK; clear hK)); (repeat (rename (Fr → Hp → Prop) => K; clear K))) | skip)
  obtain ⟨n, en⟩ : ∃ n, n = L.length := ⟨_, rfl⟩
  rw [← en]
  refine awp_loop (ι := Nat) (fun x => [(12, .v (.int .i64 ((x : Nat)))), (11, .v (.int .i64 ((n : Nat)))), (10, .list false 1 (L).length (cM iv 0 (L))), (4, .map 9), (3, .own 30 0 1 (parts (SL L) x).length)]) (fun x => (PR 30 (parts (SL L) x) (parts (SL L) x).length (parts (SL L) x).length).add (Hp.emp.upd 9 (.mp (mI iv (mpL L x))))) (fun x => x ≤ n) (fun x => n - x) 0 (Nat.zero_le _) ?_ ?_
  · show Av.Sub _ _ _ [(12, .v (.int .i64 (((0 : Nat) : Int)))), (11, .v (.int .i64 ((n : Nat)))), (10, .list false 1 (L).length (cM iv 0 (L))), (4, .map 9), (3, .own 30 0 1 0)] ((PR 30 (parts (SL L) 0) 0 0).add (Hp.emp.upd 9 (.mp (mI iv (mpL L 0)))))
    refine Sub.trans (Sub.nil (i := 3) 30 1 (mixF 30 (parts (SL L) 0) 0) rfl rfl) (Sub.toL (by simp only [go_sem] <;> first | trivial | (simp only [Option.some.injEq, AV.v.injEq, AV.own.injEq, AV.list.injEq, Value.int.injEq, Value.bool.injEq, true_and, and_true]; first | omega | (simp; done)) | (simp; done) | (simp; omega)) ?_)
    simp only [go_sem]
    exact PR_nil_le (Hp.le_refl _) rfl
  intro x hx
  have hpl : (parts (SL L) x).length ≤ x := Go.Pm.partK_len x (SL L) x
  by_cases hlo : loR (SL L) x = true
  · have hlk := mpL_new hlo
    have hlk2 : (lkI (L.getD x 0) (mpL L x)).isSome = false := by rw [hlk]; rfl
    repeat' (first | (show False; omega) | refine awp_seqK fun K hK => ?_ | (refine awp_regionK 16793085 rfl ?_; simp only [List.map_cons, List.map_nil]; simp (maxSteps := 1000000) (dsimp := false) (implicitDefEqProofs := false) (disch := omega) only [wrap64, go_sem, hlk, hlk2, Option.isSome_none, apF_self]) | (refine awp_regionQK 16793085 (by kernel_rfl) (by kernel_rfl) (by kernel_rfl) ?_; simp only [List.map_cons, List.map_nil]; simp (maxSteps := 1000000) (dsimp := false) (implicitDefEqProofs := false) (disch := omega) only [wrap64, go_sem, hlk, hlk2, Option.isSome_none, apF_self]) | refine awp_block ?_ | (refine awp_skip ?_; simp only [go_sem, hlk, hlk2, Option.isSome_none, apF_self]) | (refine awp_exit ?_; simp only [go_sem, hlk, hlk2, Option.isSome_none, apF_self]) | (refine awp_ret ?_; try simp only [go_sem, hlk, hlk2, Option.isSome_none, apF_self]) | (refine awp_condP rfl ?_; try simp only [go_sem, hlk, hlk2, Option.isSome_none, apF_self]) | (refine BrP.mk (fun h => ?_) (fun h => ?_) <;> try simp (dsimp := false) (disch := omega) only [wrap64]) | (refine Br.mk (fun h => ?_) (fun h => ?_) <;> try simp (dsimp := false) (disch := omega) only [wrap64]) | refine Ob.mk (by first | omega | (intro _ _; rfl) | trivial | (intros; trivial) | assumption | (intro i hi; have h0 : i = 0 := (by omega); subst h0; first | rfl | trivial) | (intro i hi; have h0 : i = 0 ∨ i = 1 := (by omega); rcases h0 with rfl | rfl <;> rfl) | (intro i hi; have h0 : i = 0 ∨ i = 1 ∨ i = 2 := (by omega); rcases h0 with rfl | rfl | rfl <;> rfl)) ?_ | apply_assumption -exfalso -symm)
    all_goals (first | (show endQ _ _ _ _ _ _ _; (repeat (rename (∀ (A : Fr) (H : Hp), AWP _ _ _ _ A H → _) => hK; clear hK)); (repeat (rename (Fr → Hp → Prop) => K; clear K))) | (show Exists _; (repeat (rename (∀ (A : Fr) (H : Hp), AWP _ _ _ _ A H → _) => hK; clear hK)); (repeat (rename (Fr → Hp → Prop) => K; clear K))) | skip)
    · have hE := Go.Pm.SL.eqv (x + 1) L
      have e1 := Go.Pm.parts_new hE hlo
      have e2 : mpL L (x + 1) = mpL L x ++ [(L.getD x 0, ((parts (SL L) x).length : Int))] := by
        rw [← reps_len, ← mpL_len]
        show (if loR (SL L) x = true then _ else _) = _
        rw [if_pos hlo]
      obtain ⟨P, eP⟩ : ∃ P, P = parts (SL L) x := ⟨_, rfl⟩
      obtain ⟨M, eM⟩ : ∃ M, M = mpL L (x + 1) := ⟨_, rfl⟩
      rw [← e2, ← eP, ← eM]
      rw [← eP] at e1 hpl
      refine ⟨x + 1, by omega, by omega, ?_⟩
      have e3 : (P ++ [[(x : Int)]]).length = P.length + 1 := by rw [List.length_append, List.length_singleton]
      have hyN : (P ++ [[(x : Int)]]).getD P.length [] = [(x : Int)] := by rw [List.getD_eq_getElem?_getD, List.getElem?_append_right (Nat.le_refl _), Nat.sub_self]; rfl
      have hyL : ∀ i, i < P.length → (P ++ [[(x : Int)]]).getD i [] = P.getD i [] := fun i hi => by rw [List.getD_eq_getElem?_getD, List.getElem?_append_left hi, ← List.getD_eq_getElem?_getD]
      rw [e1, e3, ← eM]
      refine Sub.absorb (d := 30) (e := 41) (k := P.length) (n := P.length + 1) (xss := P ++ [[(x : Int)]]) (H' := Hp.emp.upd 9 (.mp (mI iv M))) (by omega) (by omega) (by omega) (by omega) (by omega) rfl rfl (fun i hi => ?_) (by rw [hyN]; rfl) (fun i hi => ?_) (by simp only [go_sem] <;> first | trivial | (simp only [Option.some.injEq, AV.v.injEq, AV.own.injEq, AV.list.injEq, Value.int.injEq, Value.bool.injEq, true_and, and_true]; first | omega | (simp; done)) | (simp; done) | (simp; omega)) (by simp only [Fr.low, AV.low, and_true, true_and]; first | done | omega | trivial) (fun g B hB => ?_)
      · rw [hyN]
        show (if i = P.length then _ else apF P.length _ _ i) = _
        by_cases e : i = P.length
        · rw [if_pos e, if_pos e]; rfl
        · rw [if_neg e, if_neg e]
          unfold apF
          rw [if_pos (by omega)]
          show ((((mixF 30 P P.length i).scrub _).scrub _).scrub _) = _
          have s30 : ∀ h, h < 1000 → (sub 30 i == h) = false := fun h hh => subb (by omega)
          unfold mixF
          rw [if_pos (by omega), if_pos (by omega), hyL i (by omega)]
          simp only [AV.scrub, s30 30 (by omega), s30 40 (by omega), s30 41 (by omega), Bool.false_eq_true, if_false]
      · have n1 := fun h (hh : h < 1000) => (fun e => by have := sub_ge 30 i; rw [FB_eq] at this; omega : sub 30 i ≠ h)
        rw [hyL i hi]
        simp only [Hp.upd, if_neg (n1 30 (by omega)), if_neg (n1 41 (by omega)), if_neg (n1 40 (by omega)), if_neg (n1 31 (by omega)), if_neg (n1 9 (by omega))]
        exact add_sub (by rw [FB_eq]; omega) hi (by rw [FB_eq]; omega)
      · obtain ⟨rfl, rfl⟩ := upd_some hB
        exact ⟨rfl, by omega, by omega, by omega, fun e he => by
          obtain ⟨y, _, rfl⟩ := List.mem_map.1 he
          trivial⟩
    · have e : x = n := by omega
      rw [e]
      rw [e] at hpl
      rw [← en]
      exact end_retF rfl rfl (fits_RR (HasRR.base (by omega) (by omega)) trivial (fun _ => trivial) rfl)
  · obtain ⟨i, hi, hlk, hr⟩ := mpL_old hlo
    have hlk2 : (lkI (L.getD x 0) (mpL L x)).isSome = true := by rw [hlk]; rfl
    rw [reps_len] at hi
    obtain ⟨M, eM⟩ : ∃ M, M = mpL L x := ⟨_, rfl⟩
    obtain ⟨P, eP⟩ : ∃ P, P = parts (SL L) x := ⟨_, rfl⟩
    rw [← eM] at hlk hlk2 ⊢
    rw [← eP] at hpl hi ⊢
    have hsub : ((PR 30 P P.length P.length).add (Hp.emp.upd 9 (.mp (mI iv M)))) (sub 30 i) = some (.cells (P.getD i []).length (cM iv 0 (P.getD i []))) := add_sub (by rw [FB_eq]; omega) hi (by rw [FB_eq]; omega)
    have hrl : (P.getD i []).length ≤ 20 := by
      rw [eP]
      rw [eP] at hi
      obtain ⟨y, hy, _, e⟩ := Go.Pm.mem_partK.1 (Go.Pm.getD_mem (b := []) hi)
      rw [e]
      have := Go.Pm.clsF_len (n := x) (R := SL L) (x := y)
      omega
    have hscr : (((PR 30 P P.length P.length).add (Hp.emp.upd 9 (.mp (mI iv M)))).scrub (fun x => x == sub 30 i)) 30 = some (.cells P.length (scF (fun x => x == sub 30 i) (mixF 30 P P.length))) := by
      unfold Hp.scrub
      rw [add_self]; rfl
    repeat' (first | (show False; omega) | refine awp_seqK fun K hK => ?_ | (refine awp_regionK 16793085 rfl ?_; simp only [List.map_cons, List.map_nil]; simp (maxSteps := 1000000) (dsimp := false) (implicitDefEqProofs := false) (disch := omega) only [wrap64, go_sem, hlk, hlk2, Option.isSome_some, Option.getD_some, subb, sube, subc, subd, mixF_lt, hsub, hscr]) | (refine awp_regionQK 16793085 (by kernel_rfl) (by kernel_rfl) (by kernel_rfl) ?_; simp only [List.map_cons, List.map_nil]; simp (maxSteps := 1000000) (dsimp := false) (implicitDefEqProofs := false) (disch := omega) only [wrap64, go_sem, hlk, hlk2, Option.isSome_some, Option.getD_some, subb, sube, subc, subd, mixF_lt, hsub, hscr]) | refine awp_block ?_ | (refine awp_skip ?_; simp only [go_sem, hlk, hlk2, Option.isSome_some, Option.getD_some, subb, sube, subc, subd, mixF_lt, hsub, hscr]) | (refine awp_exit ?_; simp only [go_sem, hlk, hlk2, Option.isSome_some, Option.getD_some, subb, sube, subc, subd, mixF_lt, hsub, hscr]) | (refine awp_ret ?_; try simp only [go_sem, hlk, hlk2, Option.isSome_some, Option.getD_some, subb, sube, subc, subd, mixF_lt, hsub, hscr]) | (refine awp_condP rfl ?_; try simp only [go_sem, hlk, hlk2, Option.isSome_some, Option.getD_some, subb, sube, subc, subd, mixF_lt, hsub, hscr]) | (refine BrP.mk (fun h => ?_) (fun h => ?_) <;> try simp (dsimp := false) (disch := omega) only [wrap64]) | (refine Br.mk (fun h => ?_) (fun h => ?_) <;> try simp (dsimp := false) (disch := omega) only [wrap64]) | refine Ob.mk (by first | omega | (intro _ _; rfl) | trivial | (intros; trivial) | assumption | (intro i hi; have h0 : i = 0 := (by omega); subst h0; first | rfl | trivial) | (intro i hi; have h0 : i = 0 ∨ i = 1 := (by omega); rcases h0 with rfl | rfl <;> rfl) | (intro i hi; have h0 : i = 0 ∨ i = 1 ∨ i = 2 := (by omega); rcases h0 with rfl | rfl | rfl <;> rfl)) ?_ | apply_assumption -exfalso -symm)
    all_goals (first | (show endQ _ _ _ _ _ _ _; (repeat (rename (∀ (A : Fr) (H : Hp), AWP _ _ _ _ A H → _) => hK; clear hK)); (repeat (rename (Fr → Hp → Prop) => K; clear K))) | (show Exists _; (repeat (rename (∀ (A : Fr) (H : Hp), AWP _ _ _ _ A H → _) => hK; clear hK)); (repeat (rename (Fr → Hp → Prop) => K; clear K))) | skip)
    · have e1 : parts (SL L) (x + 1) = P.set i (P.getD i [] ++ [(x : Int)]) := by
        rw [eP]
        refine Go.Pm.parts_join (Go.Pm.SL.eqv (x + 1) L) hlo (i := i) ?_ rfl hr
        rw [eP, ← reps_len] at hi; exact hi
      have e2 : mpL L (x + 1) = M := by
        rw [eM]
        show (if loR (SL L) x = true then _ else _) = _
        rw [if_neg hlo]
      refine ⟨x + 1, by omega, by omega, ?_⟩
      rw [e1, e2, List.length_set]
      refine Sub.toL (by simp only [go_sem] <;> first | trivial | (simp only [Option.some.injEq, AV.v.injEq, AV.own.injEq, AV.list.injEq, Value.int.injEq, Value.bool.injEq, true_and, and_true]; first | omega | (simp; done)) | (simp; done) | (simp; omega)) ?_
      exact le_gro hi (by omega)
    · have e : x = n := by omega
      rw [e] at eP
      rw [← en, ← eP]
      exact end_retF rfl rfl (fits_RR (HasRR.base (by omega) (by omega)) trivial (fun _ => trivial) rfl)
end Go.Proofs.Ytngpacdhpblpbaa
end
