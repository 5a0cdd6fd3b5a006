import Derived.Test.YtdllbnchcjgcdaaE9
/- The least shortest words. -/
namespace Go.Proofs.Ytdllbnchcjgcdaa
open Go.Av
set_option linter.unusedSimpArgs false
set_option linter.unusedVariables false
attribute [local irreducible] AWP CallG Ob Br BrP Go.Av.Sub endQ AOps OpV AC thenA blkA opsVC opVC withA withArgs opsQ opQ CallQ withA2 withArgs2
open Go.Pm (Pm comp invp idn img Gen Bf srch sorts srtN Srt slot sidx insAt)
/-- The word of a row of a search. -/
def wdB (p : Pz) (B : Bf) (k : Nat) : List Int := B.wrd (lets p.m.length) (lsP p).length k (B.dp.getD k 0).toNat
def owB (p : Pz) (B : Bf) (k : Nat) : List Int × Bool := if B.dp.getD k 0 > 200 then ([], false) else (wdB p B k, true)
theorem clF_cls (B : Bf) (L : List Int) (k m : Nat) : (B.clF L k m).length = (B.cls k m).length := List.length_map _
theorem clS_cls (B : Bf) (k m : Nat) : (B.clS k m).length = (B.cls k m).length := List.length_map _
theorem optimalWord_ok (p : Pz) (B : Bf) (k : Nat) (hz : isPz p) (hw : Bf.Whole p.n.toNat (lsP p) (idn p.n.toNat) B) (hx : B.st.length ≤ 3000) (hk : k < B.st.length) : AC Try.prog 121 [.ref 1000000 0, .v (.int .i64 ((k : Int)))] (exH p B) pM (fun r H => r = .tup 2 (vecF [.own 40 0 1 (owB p B k).1.length, .v (.bool ((owB p B k).2))]) ∧ H = (exH p B).upd 40 (.cells (owB p B k).1.length (cM iv 0 (owB p B k).1))) := by
  have hld := hw.ld
  have hit := fun t ht => hw.itr (lsP_pm hz) (lsP_inv hz) hk t ht
  have hcl := fun {k} (hk : k < B.st.length) => closer_ok p B k hz hw hx hk
  have hfs := fun {k} (hk : k < B.st.length) h0 => hw.fst (lsP_pm hz) (lsP_inv hz) hk h0
  have hnx := fun {k} (hk : k < B.st.length) {i} hi => hw.nxb (k := k) (i := i) hk hi
  have hdk := hw.le k hk
  have hy : ¬ B.dp.getD k 0 > 200 → owB p B k = (wdB p B k, true) := fun h => if_neg h
  have hn : B.dp.getD k 0 > 200 → owB p B k = ([], false) := fun h => if_pos h
  clear hw
  refine ac_of_awp (N := ⟨_, pM, fun h hh => pM_low (Nat.lt_of_lt_of_le hh (by decide))⟩) Try.func121 rfl (by kernel_rfl) Try.ntmps121 (by simp) ?_
  simp only [argsFr, List.zipIdx_cons, List.zipIdx_nil, go_sem]
  unfold exH exR
  repeat' (first | refine awp_seqK fun K hK => ?_ | (refine awp_regionK 16843251 rfl ?_; simp only [List.map_cons, List.map_nil]; simp (maxSteps := 1000000) (dsimp := false) (implicitDefEqProofs := false) (disch := omega) only [wrap64, go_sem]) | (refine awp_regionQK 16843251 (by kernel_rfl) (by kernel_rfl) (by kernel_rfl) ?_; simp only [List.map_cons, List.map_nil]; simp (maxSteps := 1000000) (dsimp := false) (implicitDefEqProofs := false) (disch := omega) only [wrap64, go_sem]) | refine awp_block ?_ | (refine awp_skip ?_; simp only [go_sem]) | (refine awp_exit ?_; simp only [go_sem]) | (refine awp_ret ?_; try simp only [go_sem]) | (refine awp_condP rfl ?_; try simp only [go_sem]) | (refine BrP.mk (fun h => ?_) (fun h => ?_) <;> try simp (dsimp := false) (disch := omega) only [wrap64]) | (refine Br.mk (fun h => ?_) (fun h => ?_) <;> try simp (dsimp := false) (disch := omega) only [wrap64]) | refine Ob.mk (by first | omega | (intro _ _; rfl) | trivial | (intros; trivial) | assumption | (intro i hi; have h0 : i = 0 := (by omega); subst h0; first | rfl | trivial) | (intro i hi; have h0 : i = 0 ∨ i = 1 := (by omega); rcases h0 with rfl | rfl <;> rfl) | (intro i hi; have h0 : i = 0 ∨ i = 1 ∨ i = 2 := (by omega); rcases h0 with rfl | rfl | rfl <;> rfl)) ?_ | apply_assumption -exfalso -symm)
  all_goals (first | (show endQ _ _ _ _ _ _ _; (repeat (rename (∀ (A : Fr) (H : Hp), AWP _ _ _ _ A H → _) => hK; clear hK)); (repeat (rename (Fr → Hp → Prop) => K; clear K))) | (show Exists _; (repeat (rename (∀ (A : Fr) (H : Hp), AWP _ _ _ _ A H → _) => hK; clear hK)); (repeat (rename (Fr → Hp → Prop) => K; clear K))) | skip)
  · rw [hn (by assumption)]
    refine end_tup2 rfl (by decide) (Sub.trans (Sub.nil (i := 4) 40 1 (cM iv 0 []) rfl rfl) (Sub.toL (by simp only [go_sem] <;> first | trivial | (simp only [Option.some.injEq, AV.v.injEq, AV.own.injEq, AV.list.injEq, Value.int.injEq, Value.bool.injEq, true_and, and_true]; first | omega | (simp; done)) | (simp; done) | (simp; omega)) ?_)) ⟨rfl, rfl⟩
    simp only [Hp.scrub_upd, Hp.scrub_emp, Blk.scrub_mp, mS_scrub_iv, Blk.scrub_cells, scF_vecF, List.map_cons, List.map_nil, AV.scrub, Nat.reduceBEq, Bool.false_eq_true, if_false]
    repeat' (first | exact Hp.le_emp _ | refine Hp.le_upd rfl ?_)
  · have f0 : B.wrd (lets p.m.length) (lsP p).length k 0 = [] := rfl
    have i0 : B.itr (lsP p).length k 0 = k := rfl
    refine awp_loop (ι := Nat) (fun t => [(6, .own 40 0 1 (B.wrd (lets p.m.length) (lsP p).length k t).length), (1, .v (.int .i64 (((B.itr (lsP p).length k t : Nat) : Int)))), (0, .ref 1000000 0)]) (fun t => (exH p B).upd 40 (.cells (B.wrd (lets p.m.length) (lsP p).length k t).length (cM iv 0 (B.wrd (lets p.m.length) (lsP p).length k t)))) (fun t => (t : Int) ≤ B.dp.getD k 0) (fun t => (B.dp.getD k 0).toNat - t) 0 (by omega) (Sub.trans (Sub.nil (i := 6) 40 1 (cM iv 0 []) rfl rfl) (Sub.toL (by rw [f0, i0]; exact (by simp only [go_sem] <;> first | trivial | (simp only [Option.some.injEq, AV.v.injEq, AV.own.injEq, AV.list.injEq, Value.int.injEq, Value.bool.injEq, true_and, and_true]; first | omega | (simp; done)) | (simp; done) | (simp; omega))) (by rw [f0]; unfold exH exR; simp only [Hp.scrub_upd, Hp.scrub_emp, Blk.scrub_mp, mS_scrub_iv, Blk.scrub_cells, scF_vecF, List.map_cons, List.map_nil, AV.scrub, Nat.reduceBEq, Bool.false_eq_true, if_false]; repeat' (first | exact Hp.le_emp _ | refine Hp.le_upd rfl ?_)))) ?_
    intro t ht
    obtain ⟨hq, hqd⟩ := hit t ht
    have hws := B.wrd_succ (lets p.m.length) (lsP p).length k t
    have hwl := B.wrd_length (lets p.m.length) (lsP p).length k t
    have his : B.itr (lsP p).length k (t + 1) = B.fnx (lsP p).length (B.itr (lsP p).length k t) := rfl
    obtain ⟨q, hqe⟩ : ∃ q, q = B.itr (lsP p).length k t := ⟨_, rfl⟩
    rw [← hqe] at hq hqd hws his ⊢
    have hc := hcl hq
    have hf := hfs hq
    have hl1 : 0 < B.dp.getD q 0 → 0 < (B.clF (lets p.m.length) q (lsP p).length).length ∧ 0 < (B.clS q (lsP p).length).length := fun h => by
      rw [clF_cls, clS_cls]; have := (hf h).2.2.1; exact ⟨this, this⟩
    clear hit hcl hfs hn
    unfold exH exR
    repeat' (first | refine awp_seqK fun K hK => ?_ | (refine awp_regionK 16843251 rfl ?_; simp only [List.map_cons, List.map_nil]; simp (maxSteps := 1000000) (dsimp := false) (implicitDefEqProofs := false) (disch := omega) only [wrap64, go_sem]) | (refine awp_regionQK 16843251 (by kernel_rfl) (by kernel_rfl) (by kernel_rfl) ?_; simp only [List.map_cons, List.map_nil]; simp (maxSteps := 1000000) (dsimp := false) (implicitDefEqProofs := false) (disch := omega) only [wrap64, go_sem]) | refine awp_block ?_ | (refine awp_skip ?_; simp only [go_sem]) | (refine awp_exit ?_; simp only [go_sem]) | (refine awp_ret ?_; try simp only [go_sem]) | (refine awp_condP rfl ?_; try simp only [go_sem]) | (refine BrP.mk (fun h => ?_) (fun h => ?_) <;> try simp (dsimp := false) (disch := omega) only [wrap64]) | (refine Br.mk (fun h => ?_) (fun h => ?_) <;> try simp (dsimp := false) (disch := omega) only [wrap64]) | refine Ob.mk (by first | omega | (intro _ _; rfl) | trivial | (intros; trivial) | assumption | (intro i hi; have h0 : i = 0 := (by omega); subst h0; first | rfl | trivial) | (intro i hi; have h0 : i = 0 ∨ i = 1 := (by omega); rcases h0 with rfl | rfl <;> rfl) | (intro i hi; have h0 : i = 0 ∨ i = 1 ∨ i = 2 := (by omega); rcases h0 with rfl | rfl | rfl <;> rfl)) ?_ | ((first | ((first | refine atF (f := 117) ?_ | refine atQ (f := 117) ?_); (refine callEx (p := p) (B := B) (by omega) (by unfold exH exR; repeat' (first | exact Hp.le_emp _ | refine Hp.le_upd rfl ?_)) hc rfl (fun q h => tup2_own q h) ?_))); simp (maxSteps := 1000000) (dsimp := false) (implicitDefEqProofs := false) (disch := omega) only [wrap64, go_sem]) | apply_assumption -exfalso -symm)
    all_goals (first | (show endQ _ _ _ _ _ _ _; (repeat (rename (∀ (A : Fr) (H : Hp), AWP _ _ _ _ A H → _) => hK; clear hK)); (repeat (rename (Fr → Hp → Prop) => K; clear K))) | (show Exists _; (repeat (rename (∀ (A : Fr) (H : Hp), AWP _ _ _ _ A H → _) => hK; clear hK)); (repeat (rename (Fr → Hp → Prop) => K; clear K))) | skip)
    · obtain ⟨hf1, hf2, hf3, hf4, hf5⟩ := hf (by assumption)
      have e1 : (B.clS q (lsP p).length).getD (Int.toNat 0) 0 = ((B.fnx (lsP p).length q : Nat) : Int) := by
        rw [show Int.toNat 0 = 0 from rfl, Bf.clS_0 hf3]
        exact (Int.toNat_of_nonneg (hnx hq hf1).1).symm
      have e2 : (B.clF (lets p.m.length) q (lsP p).length).getD (Int.toNat 0) 0 = (lets p.m.length).getD (B.fst (lsP p).length q) 0 := by
        rw [show Int.toNat 0 = 0 from rfl]
        exact Bf.clF_0 hf3
      refine ⟨t + 1, by omega, by omega, ?_⟩
      rw [hws, his, e1, e2]
      exact Sub.toL (by simp only [go_sem] <;> first | trivial | (simp only [Option.some.injEq, AV.v.injEq, AV.own.injEq, AV.list.injEq, Value.int.injEq, Value.bool.injEq, true_and, and_true]; first | omega | (simp; done)) | (simp; done) | (simp; omega)) (by (repeat' (first | exact Hp.le_emp _ | exact Hp.le_refl _ | refine Hp.le_upd ?_ ?_)); all_goals (first | rfl | (simp only [go_sem]; first | rfl | (refine cellsE ?_ ?_ <;> (simp)) | (simp))))
    · have e : (B.dp.getD k 0).toNat = t := by omega
      have e2 : wdB p B k = B.wrd (lets p.m.length) (lsP p).length k t := by unfold wdB; rw [e]
      rw [hy (by assumption), e2]
      refine end_tup2 rfl (by decide) (Sub.toL (by simp only [go_sem] <;> first | trivial | (simp only [Option.some.injEq, AV.v.injEq, AV.own.injEq, AV.list.injEq, Value.int.injEq, Value.bool.injEq, true_and, and_true]; first | omega | (simp; done)) | (simp; done) | (simp; omega)) (Hp.le_refl _)) ⟨rfl, rfl⟩
theorem XA_isSt {p : Pz} (h : (XS p).isSome = true) {s : List Int} (hs : s ∈ (XA p).st) : isSt p s := by
  have hz := (XA_whole h).1
  have h1 := ((XA_mem h s).1 hs).pm (lsP_pm hz)
  have hn := hz.n
  exact ⟨hz, by rw [h1.1]; omega, (isPerm_pm _).2 ⟨by rw [h1.1]; omega, by rw [h1.1]; exact h1⟩⟩
theorem specDescendWord_ok (p : Pz) (s : List Int) (h : (XS p).isSome = true) (h3 : s ∈ (XA p).st) (d : Nat) : AC Try.prog 120 [pz p, sFw (XA p).st (XA p).dp (sorts (XA p).st) true, ints s] Hp.emp (fun _ => false) (retI d (wdB p (XA p) ((XA p).st.idxOf s))) := by
  obtain ⟨hz, hw, hxx⟩ := XA_whole h
  have hm := hz.1.2.1
  have hlm := lsP_length p
  have hll := lets_length p.m.length
  obtain ⟨k, hk⟩ : ∃ k, k = (XA p).st.idxOf s := ⟨_, rfl⟩
  have hkl : k < (XA p).st.length := by rw [hk]; exact List.idxOf_lt_length_iff.2 h3
  have hdb := hw.le k hkl
  have hds : depD (XA p) s = (XA p).dp.getD k 0 := by unfold depD; rw [if_pos h3, hk]
  have hdo0 : AC Try.prog 101 [sFw (XA p).st (XA p).dp (sorts (XA p).st) true, ints s] Hp.emp (fun _ => false) (retV (.v (.int .i64 ((XA p).dp.getD k 0)))) := by rw [← hds]; exact depP_ok h (XA_isSt h h3).len
  have hdo : ∀ {q}, q < (XA p).st.length → ∀ i, AC Try.prog 101 [sFw (XA p).st (XA p).dp (sorts (XA p).st) true, ints (nbP p ((XA p).st.getD q []) i)] Hp.emp (fun _ => false) (retV (.v (.int .i64 (depD (XA p) (nbP p ((XA p).st.getD q []) i))))) := fun hq i => depP_ok h (by rw [nb_len]; exact (XA_isSt h (Go.Pm.mem_getD hq)).len)
  have hit := fun t ht => hw.itr (lsP_pm hz) (lsP_inv hz) hkl t ht
  have hfs := fun {k} (hk : k < (XA p).st.length) h0 => hw.fst (lsP_pm hz) (lsP_inv hz) hk h0
  have hst : ∀ {q}, q < (XA p).st.length → _ := fun hq => isSt_rng (XA_isSt h (Go.Pm.mem_getD hq))
  have hdn := fun {q} (hq : q < (XA p).st.length) i (hi : i < (lsP p).length) => nb_dn h (Go.Pm.mem_getD hq) hi
  have hid := fun {q} (hq : q < (XA p).st.length) => hw.idx hq
  have hnn := fun {q} (hq : q < (XA p).st.length) i (hi : i < (lsP p).length) => nb_nx h (Go.Pm.mem_getD hq) hi
  have hns := fun {q} (hq : q < (XA p).st.length) i (hi : i < (lsP p).length) => nb_st h (Go.Pm.mem_getD hq) hi
  have hs0 : (XA p).st.getD k [] = s := by rw [hk]; exact Go.Pm.getD_idx h3
  rw [← hk]
  unfold sFw at hdo0 hdo ⊢
  clear hw
  refine ac_of_awp (N := ⟨_, fun _ => false, fun _ _ => rfl⟩) Try.func120 rfl (by kernel_rfl) Try.ntmps120 (by simp) ?_
  simp only [argsFr, List.zipIdx_cons, List.zipIdx_nil, go_sem]
  repeat' (first | refine awp_seqK fun K hK => ?_ | (refine awp_regionK 1099545710559 rfl ?_; simp only [List.map_cons, List.map_nil]; simp (maxSteps := 1000000) (dsimp := false) (implicitDefEqProofs := false) (disch := omega) only [wrap64, go_sem]) | (refine awp_regionQK 1099545710559 (by kernel_rfl) (by kernel_rfl) (by kernel_rfl) ?_; simp only [List.map_cons, List.map_nil]; simp (maxSteps := 1000000) (dsimp := false) (implicitDefEqProofs := false) (disch := omega) only [wrap64, go_sem]) | refine awp_block ?_ | (refine awp_skip ?_; simp only [go_sem]) | (refine awp_exit ?_; simp only [go_sem]) | (refine awp_ret ?_; try simp only [go_sem]) | (refine awp_condP rfl ?_; try simp only [go_sem]) | (refine BrP.mk (fun h => ?_) (fun h => ?_) <;> try simp (dsimp := false) (disch := omega) only [wrap64]) | (refine Br.mk (fun h => ?_) (fun h => ?_) <;> try simp (dsimp := false) (disch := omega) only [wrap64]) | refine Ob.mk (by first | omega | (intro _ _; rfl) | trivial | (intros; trivial) | assumption | (intro i hi; have h0 : i = 0 := (by omega); subst h0; first | rfl | trivial) | (intro i hi; have h0 : i = 0 ∨ i = 1 := (by omega); rcases h0 with rfl | rfl <;> rfl) | (intro i hi; have h0 : i = 0 ∨ i = 1 ∨ i = 2 := (by omega); rcases h0 with rfl | rfl | rfl <;> rfl)) ?_ | ((first | ((first | refine atF (f := 109) ?_ | refine atQ (f := 109) ?_); (first | (refine cFI (hac := lettersOf_ok p (by omega) 14) (hK := ?_)) | (refine cQI (hac := lettersOf_ok p (by omega) 14) (hK := ?_)))) | (refine cV (hac := hdo0) (hK := ?_)) | (refine cQV (hac := hdo0) (hK := ?_))); simp (maxSteps := 1000000) (dsimp := false) (implicitDefEqProofs := false) (disch := omega) only [wrap64, go_sem]) | apply_assumption -exfalso -symm)
  all_goals (first | (show endQ _ _ _ _ _ _ _; (repeat (rename (∀ (A : Fr) (H : Hp), AWP _ _ _ _ A H → _) => hK; clear hK)); (repeat (rename (Fr → Hp → Prop) => K; clear K))) | (show Exists _; (repeat (rename (∀ (A : Fr) (H : Hp), AWP _ _ _ _ A H → _) => hK; clear hK)); (repeat (rename (Fr → Hp → Prop) => K; clear K))) | skip)
  have f0 : (XA p).wrd (lets p.m.length) (lsP p).length k 0 = [] := rfl
  have i0 : (XA p).itr (lsP p).length k 0 = k := rfl
  refine awp_loop (ι := Nat) (fun t => [(9, .v (.int .i64 ((XA p).dp.getD k 0 - (t : Int)))), (8, .list false 1 (lets p.m.length).length (cM iv 0 (lets p.m.length))), (7, .own 12 0 1 ((XA p).wrd (lets p.m.length) (lsP p).length k t).length), (4, .ref 4 0), (3, .ref 3 0), (2, .list false 1 ((XA p).st.getD ((XA p).itr (lsP p).length k t) []).length (cM iv 0 ((XA p).st.getD ((XA p).itr (lsP p).length k t) [])))]) (fun t => (((Hp.emp.upd 3 (.cells 3 (vecF [.v (.int .i64 (p.n)), .v (.string (p.s)), .list false 1 (p.m).length (cM ints [] (p.m))]))).upd 4 (.cells 4 (vecF [.list false 1 ((XA p).st).length (cM ints [] ((XA p).st)), .list false 1 ((XA p).dp).length (cM iv 0 ((XA p).dp)), .list false 1 (sorts (XA p).st).length (cM iv 0 (sorts (XA p).st)), .v (.bool (true))]))).upd 12 (.cells ((XA p).wrd (lets p.m.length) (lsP p).length k t).length (cM iv 0 ((XA p).wrd (lets p.m.length) (lsP p).length k t))))) (fun t => (t : Int) ≤ (XA p).dp.getD k 0) (fun t => ((XA p).dp.getD k 0).toNat - t) 0 (by omega) (Sub.toL (by rw [f0, i0, hs0]; exact (by simp only [go_sem] <;> first | trivial | (simp only [Option.some.injEq, AV.v.injEq, AV.own.injEq, AV.list.injEq, Value.int.injEq, Value.bool.injEq, true_and, and_true]; first | omega | (simp; done)) | (simp; done) | (simp; omega))) (by rw [f0]; repeat' (first | exact Hp.le_emp _ | refine Hp.le_upd rfl ?_))) ?_
  intro t ht
  obtain ⟨hq, hqd⟩ := hit t ht
  have hws := (XA p).wrd_succ (lets p.m.length) (lsP p).length k t
  have hwl := (XA p).wrd_length (lets p.m.length) (lsP p).length k t
  have his : (XA p).itr (lsP p).length k (t + 1) = (XA p).fnx (lsP p).length ((XA p).itr (lsP p).length k t) := rfl
  obtain ⟨q, hqe⟩ : ∃ q, q = (XA p).itr (lsP p).length k t := ⟨_, rfl⟩
  rw [← hqe] at hq hqd hws his ⊢
  have hf := hfs hq
  have hst := hst hq
  have hdo := hdo hq
  have hdn := hdn hq
  have hnn := hnn hq
  have hns := hns hq
  rw [hid hq] at hnn hdn
  obtain ⟨sq, hsq⟩ : ∃ sq, sq = (XA p).st.getD q [] := ⟨_, rfl⟩
  rw [← hsq] at hst hdo hdn hns hnn ⊢
  clear hit hfs hid
  repeat' (first | refine awp_seqK fun K hK => ?_ | (refine awp_regionK 1099545710559 rfl ?_; simp only [List.map_cons, List.map_nil]; simp (maxSteps := 1000000) (dsimp := false) (implicitDefEqProofs := false) (disch := omega) only [wrap64, go_sem]) | (refine awp_regionQK 1099545710559 (by kernel_rfl) (by kernel_rfl) (by kernel_rfl) ?_; simp only [List.map_cons, List.map_nil]; simp (maxSteps := 1000000) (dsimp := false) (implicitDefEqProofs := false) (disch := omega) only [wrap64, go_sem]) | refine awp_block ?_ | (refine awp_skip ?_; simp only [go_sem]) | (refine awp_exit ?_; simp only [go_sem]) | (refine awp_ret ?_; try simp only [go_sem]) | (refine awp_condP rfl ?_; try simp only [go_sem]) | (refine BrP.mk (fun h => ?_) (fun h => ?_) <;> try simp (dsimp := false) (disch := omega) only [wrap64]) | (refine Br.mk (fun h => ?_) (fun h => ?_) <;> try simp (dsimp := false) (disch := omega) only [wrap64]) | refine Ob.mk (by first | omega | (intro _ _; rfl) | trivial | (intros; trivial) | assumption | (intro i hi; have h0 : i = 0 := (by omega); subst h0; first | rfl | trivial) | (intro i hi; have h0 : i = 0 ∨ i = 1 := (by omega); rcases h0 with rfl | rfl <;> rfl) | (intro i hi; have h0 : i = 0 ∨ i = 1 ∨ i = 2 := (by omega); rcases h0 with rfl | rfl | rfl <;> rfl)) ?_ | apply_assumption -exfalso -symm)
  all_goals (first | (show endQ _ _ _ _ _ _ _; (repeat (rename (∀ (A : Fr) (H : Hp), AWP _ _ _ _ A H → _) => hK; clear hK)); (repeat (rename (Fr → Hp → Prop) => K; clear K))) | (show Exists _; (repeat (rename (∀ (A : Fr) (H : Hp), AWP _ _ _ _ A H → _) => hK; clear hK)); (repeat (rename (Fr → Hp → Prop) => K; clear K))) | skip)
  · refine awp_loop (ι := Nat) (fun i => [(10, .v (.int .i64 (i))), (9, .v (.int .i64 ((XA p).dp.getD k 0 - (t : Int)))), (8, .list false 1 (lets p.m.length).length (cM iv 0 (lets p.m.length))), (7, .own 12 0 1 ((XA p).wrd (lets p.m.length) (lsP p).length k t).length), (4, .ref 4 0), (3, .ref 3 0), (2, .list false 1 (sq).length (cM iv 0 (sq)))]) (fun i => (((Hp.emp.upd 3 (.cells 3 (vecF [.v (.int .i64 (p.n)), .v (.string (p.s)), .list false 1 (p.m).length (cM ints [] (p.m))]))).upd 4 (.cells 4 (vecF [.list false 1 ((XA p).st).length (cM ints [] ((XA p).st)), .list false 1 ((XA p).dp).length (cM iv 0 ((XA p).dp)), .list false 1 (sorts (XA p).st).length (cM iv 0 (sorts (XA p).st)), .v (.bool (true))]))).upd 12 (.cells ((XA p).wrd (lets p.m.length) (lsP p).length k t).length (cM iv 0 ((XA p).wrd (lets p.m.length) (lsP p).length k t))))) (fun i => i ≤ (lsP p).length ∧ ∀ j, j < i → (XA p).dn q j = false) (fun i => (lsP p).length - i) 0 ⟨Nat.zero_le _, fun j hj => absurd hj (Nat.not_lt_zero j)⟩ (Sub.toL (by simp only [go_sem] <;> first | trivial | (simp only [Option.some.injEq, AV.v.injEq, AV.own.injEq, AV.list.injEq, Value.int.injEq, Value.bool.injEq, true_and, and_true]; first | omega | (simp; done)) | (simp; done) | (simp; omega)) (by (repeat' (first | exact Hp.le_emp _ | exact Hp.le_refl _ | refine Hp.le_upd ?_ ?_)); all_goals (first | rfl | (simp only [go_sem]; first | rfl | (refine cellsE ?_ ?_ <;> (simp)) | (simp))))) ?_
    rintro i ⟨hi, hij⟩
    have hij' : Hold _ := ⟨hij⟩
    have hl1 := lets_inL p.m i
    have hdi := hdo i
    have hnb : comp sq (letP p.m ((lets p.m.length).getD i 0)) = nbP p sq i := rfl
    clear hij
    repeat' (first | (refine ob4 rfl rfl rfl rfl ?_) | refine awp_seqK fun K hK => ?_ | (refine awp_regionK 1099545710559 rfl ?_; simp only [List.map_cons, List.map_nil]; simp (maxSteps := 1000000) (dsimp := false) (implicitDefEqProofs := false) (disch := omega) only [wrap64, go_sem, hnb]) | (refine awp_regionQK 1099545710559 (by kernel_rfl) (by kernel_rfl) (by kernel_rfl) ?_; simp only [List.map_cons, List.map_nil]; simp (maxSteps := 1000000) (dsimp := false) (implicitDefEqProofs := false) (disch := omega) only [wrap64, go_sem, hnb]) | refine awp_block ?_ | (refine awp_skip ?_; simp only [go_sem, hnb]) | (refine awp_exit ?_; simp only [go_sem, hnb]) | (refine awp_ret ?_; try simp only [go_sem, hnb]) | (refine awp_condP rfl ?_; try simp only [go_sem, hnb]) | (refine BrP.mk (fun h => ?_) (fun h => ?_) <;> try simp (dsimp := false) (disch := omega) only [wrap64]) | (refine Br.mk (fun h => ?_) (fun h => ?_) <;> try simp (dsimp := false) (disch := omega) only [wrap64]) | refine Ob.mk (by first | omega | (intro _ _; rfl) | trivial | (intros; trivial) | assumption | (intro i hi; have h0 : i = 0 := (by omega); subst h0; first | rfl | trivial) | (intro i hi; have h0 : i = 0 ∨ i = 1 := (by omega); rcases h0 with rfl | rfl <;> rfl) | (intro i hi; have h0 : i = 0 ∨ i = 1 ∨ i = 2 := (by omega); rcases h0 with rfl | rfl | rfl <;> rfl)) ?_ | ((first | ((first | refine atF (f := 110) ?_ | refine atQ (f := 110) ?_); (first | (refine cFI (hac := applyLetter_ok p sq ((lets p.m.length).getD i 0) hz (hl1 (by omega)) (by omega) (fun j hj => by have := hst.2 j hj; omega) 25) (hK := ?_)) | (refine cQI (hac := applyLetter_ok p sq ((lets p.m.length).getD i 0) hz (hl1 (by omega)) (by omega) (fun j hj => by have := hst.2 j hj; omega) 25) (hK := ?_)))) | (refine cV (hac := hdi) (hK := ?_)) | (refine cQV (hac := hdi) (hK := ?_))); simp (maxSteps := 1000000) (dsimp := false) (implicitDefEqProofs := false) (disch := omega) only [wrap64, go_sem, hnb]) | apply_assumption -exfalso -symm)
    all_goals (first | (show endQ _ _ _ _ _ _ _; (repeat (rename (∀ (A : Fr) (H : Hp), AWP _ _ _ _ A H → _) => hK; clear hK)); (repeat (rename (Fr → Hp → Prop) => K; clear K))) | (show Exists _; (repeat (rename (∀ (A : Fr) (H : Hp), AWP _ _ _ _ A H → _) => hK; clear hK)); (repeat (rename (Fr → Hp → Prop) => K; clear K))) | skip)
    · have hdnq : (XA p).dn q i = true := (hdn i (by omega)).2 (by omega)
      have efst := Bf.fst_eq (m := (lsP p).length) (by omega) hdnq hij'.h
      have enx : (XA p).fnx (lsP p).length q = (XA p).st.idxOf (nbP p sq i) := by
        unfold Bf.fnx; rw [efst, hnn i (by omega)]; rfl
      refine ⟨t + 1, by omega, by omega, ?_⟩
      rw [hws, efst, his, enx, Go.Pm.getD_idx (hns i (by omega))]
      exact Sub.toL (by simp only [go_sem] <;> first | trivial | (simp only [Option.some.injEq, AV.v.injEq, AV.own.injEq, AV.list.injEq, Value.int.injEq, Value.bool.injEq, true_and, and_true]; first | omega | (simp; done)) | (simp; done) | (simp; omega)) (by (repeat' (first | exact Hp.le_emp _ | exact Hp.le_refl _ | refine Hp.le_upd ?_ ?_)); all_goals (first | rfl | (simp only [go_sem]; first | rfl | (refine cellsE ?_ ?_ <;> (simp)) | (simp))))
    · refine ⟨i + 1, ⟨by omega, fun j hj => ?_⟩, by omega, Sub.toL (by simp only [go_sem] <;> first | trivial | (simp only [Option.some.injEq, AV.v.injEq, AV.own.injEq, AV.list.injEq, Value.int.injEq, Value.bool.injEq, true_and, and_true]; first | omega | (simp; done)) | (simp; done) | (simp; omega)) (by (repeat' (first | exact Hp.le_emp _ | exact Hp.le_refl _ | refine Hp.le_upd ?_ ?_)); all_goals (first | rfl | (simp only [go_sem]; first | rfl | (refine cellsE ?_ ?_ <;> (simp)) | (simp))))⟩
      by_cases e : j = i
      · subst e
        exact Bool.eq_false_iff.2 fun hh => absurd ((hdn j (by omega)).1 hh) (by omega)
      · exact hij'.h j (by omega)
    · exfalso
      obtain ⟨hf1, hf2, _⟩ := hf (by omega)
      rw [hij'.h _ (by omega)] at hf2
      cases hf2
  · have e : ((XA p).dp.getD k 0).toNat = t := by omega
    exact end_retI' rfl rfl rfl (by unfold wdB; rw [e]) rfl rfl
noncomputable def owP (p : Pz) (s : List Int) : List Int × Bool := if 0 ≤ dstP p s ∧ ¬ dstP p s > 200 then (wdB p (XA p) ((XA p).st.idxOf s), true) else ([], false)
theorem specOptimalWord_ok (p : Pz) (s : List Int) (d : Nat) : AC Try.prog 70 [pz p, ints s] Hp.emp (fun _ => false) (retIB d (owP p s).1 (owP p s).2) := by
  have hac := searchState_ok p s
  have hsc := XAu_scrub p (fun _ => true) (XS p).isSome (.int .i64 (dstP p s)) (.bool (decide (0 ≤ dstP p s)))
  have hde : 0 ≤ dstP p s → AC Try.prog 120 [pz p, sFw (XA p).st (XA p).dp (sorts (XA p).st) (XS p).isSome, ints s] Hp.emp (fun _ => false) (retI 26 (wdB p (XA p) ((XA p).st.idxOf s))) := fun h => by
    obtain ⟨h1, h2, h3⟩ := dstP_st h
    rw [h1]
    exact specDescendWord_ok p s h1 h3 26
  have hy : 0 ≤ dstP p s → ¬ dstP p s > 200 → owP p s = (wdB p (XA p) ((XA p).st.idxOf s), true) := fun h k => if_pos ⟨h, k⟩
  have hn1 : ¬ 0 ≤ dstP p s → owP p s = ([], false) := fun h => if_neg fun k => h k.1
  have hn2 : dstP p s > 200 → owP p s = ([], false) := fun h => if_neg fun k => k.2 h
  unfold sFw at hac hsc hde
  refine ac_of_awp (N := ⟨_, fun _ => false, fun _ _ => rfl⟩) Try.func70 rfl (by kernel_rfl) Try.ntmps70 (by simp) ?_
  simp only [argsFr, List.zipIdx_cons, List.zipIdx_nil, go_sem]
  repeat' (first | (refine ob4 rfl rfl rfl rfl ?_) | refine awp_seqK fun K hK => ?_ | (refine awp_regionK 2097655 rfl ?_; simp only [List.map_cons, List.map_nil]; simp (maxSteps := 1000000) (dsimp := false) (implicitDefEqProofs := false) (disch := omega) only [wrap64, go_sem]) | (refine awp_regionQK 2097655 (by kernel_rfl) (by kernel_rfl) (by kernel_rfl) ?_; simp only [List.map_cons, List.map_nil]; simp (maxSteps := 1000000) (dsimp := false) (implicitDefEqProofs := false) (disch := omega) only [wrap64, go_sem]) | refine awp_block ?_ | (refine awp_skip ?_; simp only [go_sem]) | (refine awp_exit ?_; simp only [go_sem]) | (refine awp_ret ?_; try simp only [go_sem]) | (refine awp_condP rfl ?_; try simp only [go_sem]) | (refine BrP.mk (fun h => ?_) (fun h => ?_) <;> try simp (dsimp := false) (disch := omega) only [wrap64]) | (refine Br.mk (fun h => ?_) (fun h => ?_) <;> try simp (dsimp := false) (disch := omega) only [wrap64]) | refine Ob.mk (by first | omega | (intro _ _; rfl) | trivial | (intros; trivial) | assumption | (intro i hi; have h0 : i = 0 := (by omega); subst h0; first | rfl | trivial) | (intro i hi; have h0 : i = 0 ∨ i = 1 := (by omega); rcases h0 with rfl | rfl <;> rfl) | (intro i hi; have h0 : i = 0 ∨ i = 1 ∨ i = 2 := (by omega); rcases h0 with rfl | rfl | rfl <;> rfl)) ?_ | ((first | (refine cR (hac := hac) (hK := ?_) (hs := hsc)) | (refine cI (hac := hde (by assumption)) (hK := ?_)) | (refine cQI (hac := hde (by assumption)) (hK := ?_))); simp (maxSteps := 1000000) (dsimp := false) (implicitDefEqProofs := false) (disch := omega) only [wrap64, go_sem]) | apply_assumption -exfalso -symm)
  all_goals (first | (show endQ _ _ _ _ _ _ _; (repeat (rename (∀ (A : Fr) (H : Hp), AWP _ _ _ _ A H → _) => hK; clear hK)); (repeat (rename (Fr → Hp → Prop) => K; clear K))) | (show Exists _; (repeat (rename (∀ (A : Fr) (H : Hp), AWP _ _ _ _ A H → _) => hK; clear hK)); (repeat (rename (Fr → Hp → Prop) => K; clear K))) | skip)
  · exact end_retIB' rfl rfl rfl rfl (hn2 (by assumption)) (by decide) rfl rfl
  · exact end_retIB' rfl rfl rfl rfl (hy (by assumption) (by assumption)) (by decide) rfl rfl
  · exact end_retIB' rfl rfl rfl rfl (hn1 (by assumption)) (by decide) rfl rfl
theorem ow_eq {p : Pz} {s : List Int} (h1 : (XS p).isSome = true) (h : isSt p s ∧ s ∈ (XA p).st) : owP p s = ((owB p (XA p) ((XA p).st.idxOf s)).1, (owB p (XA p) ((XA p).st.idxOf s)).2) := by
  have h2 := dst_yes h1 h
  have h3 := dst_eq h2
  unfold owP owB
  rw [← h3]
  by_cases e : dstP p s > 200
  · rw [if_neg (fun k => k.2 e), if_pos e]
  · rw [if_pos ⟨h2, e⟩, if_neg e]
theorem ow_no {p : Pz} {s : List Int} (h : ¬ 0 ≤ dstP p s) : owP p s = ([], false) := if_neg fun k => h k.1
theorem implOptimalWord_ok (p : Pz) (s : List Int) (hs0 : p.s.size ≤ 140737488355328) (d : Nat) : AC Try.prog 71 [pz p, ints s] Hp.emp (fun _ => false) (retIB d (owP p s).1 (owP p s).2) := by
  have hc := fun (h : (XS p).isSome = true) (k : isSt p s ∧ s ∈ (XA p).st) => optimalWord_ok p (XA p) _ (XA_whole h).1 (XA_whole h).2.1 (XA_whole h).2.2 (List.idxOf_lt_length_iff.2 k.2)
  have hfd := fun k : isSt p s ∧ s ∈ (XA p).st => fdI_yes k
  refine ac_of_awp (N := ⟨_, fun _ => false, fun _ _ => rfl⟩) Try.func71 rfl (by kernel_rfl) Try.ntmps71 (by simp) ?_
  simp only [argsFr, List.zipIdx_cons, List.zipIdx_nil, go_sem]
  repeat' (first | ((first | refine atF (f := 106) ?_ | refine atQ (f := 106) ?_); refine callS3 (exploreState_ok p s hs0) rfl (fun hX => ?_) (fun hX => ?_) <;> simp (maxSteps := 1000000) (dsimp := false) (implicitDefEqProofs := false) (disch := omega) only [wrap64, go_sem, pM_low]) | refine awp_seqK fun K hK => ?_ | (refine awp_regionK 131575 rfl ?_; simp only [List.map_cons, List.map_nil]; simp (maxSteps := 1000000) (dsimp := false) (implicitDefEqProofs := false) (disch := omega) only [wrap64, go_sem, pM_low]) | (refine awp_regionQK 131575 (by kernel_rfl) (by kernel_rfl) (by kernel_rfl) ?_; simp only [List.map_cons, List.map_nil]; simp (maxSteps := 1000000) (dsimp := false) (implicitDefEqProofs := false) (disch := omega) only [wrap64, go_sem, pM_low]) | refine awp_block ?_ | (refine awp_skip ?_; simp only [go_sem, pM_low]) | (refine awp_exit ?_; simp only [go_sem, pM_low]) | (refine awp_ret ?_; try simp only [go_sem, pM_low]) | (refine awp_condP rfl ?_; try simp only [go_sem, pM_low]) | (refine BrP.mk (fun h => ?_) (fun h => ?_) <;> try simp (dsimp := false) (disch := omega) only [wrap64]) | (refine Br.mk (fun h => ?_) (fun h => ?_) <;> try simp (dsimp := false) (disch := omega) only [wrap64]) | refine Ob.mk (by first | omega | (intro _ _; rfl) | trivial | (intros; trivial) | assumption | (intro i hi; have h0 : i = 0 := (by omega); subst h0; first | rfl | trivial) | (intro i hi; have h0 : i = 0 ∨ i = 1 := (by omega); rcases h0 with rfl | rfl <;> rfl) | (intro i hi; have h0 : i = 0 ∨ i = 1 ∨ i = 2 := (by omega); rcases h0 with rfl | rfl | rfl <;> rfl)) ?_ | ((first | ((first | refine atF (f := 121) ?_ | refine atQ (f := 121) ?_); (rw [hfd (by assumption)]; refine callEx (by omega) (by unfold exH exR; repeat' (first | exact Hp.le_emp _ | refine Hp.le_upd rfl ?_)) (hc (by assumption) (by assumption)) rfl (fun q h => tup2_ownV q h) ?_))); simp (maxSteps := 1000000) (dsimp := false) (implicitDefEqProofs := false) (disch := omega) only [wrap64, go_sem, pM_low]) | apply_assumption -exfalso -symm)
  all_goals (first | (show endQ _ _ _ _ _ _ _; (repeat (rename (∀ (A : Fr) (H : Hp), AWP _ _ _ _ A H → _) => hK; clear hK)); (repeat (rename (Fr → Hp → Prop) => K; clear K))) | (show Exists _; (repeat (rename (∀ (A : Fr) (H : Hp), AWP _ _ _ _ A H → _) => hK; clear hK)); (repeat (rename (Fr → Hp → Prop) => K; clear K))) | skip)
  · exact end_retIB' rfl rfl rfl rfl (ow_eq (by assumption) (by assumption)) (by decide) rfl rfl
  · exact end_retIB_nil' rfl rfl rfl (ow_no (fun k => absurd (dstP_st k).2 (by assumption))) (by decide) rfl
  · exact end_retIB_nil' rfl rfl rfl (ow_no (fun k => absurd (dstP_st k).1 (by rw [(by assumption : (XS p).isSome = false)]; exact Bool.false_ne_true))) (by decide) rfl
theorem owP_len (p : Pz) (s : List Int) : (owP p s).1.length ≤ 200 := by
  unfold owP
  split
  · rename_i h
    have h1 := dst_eq h.1
    have h2 : (wdB p (XA p) ((XA p).st.idxOf s)).length = ((XA p).dp.getD ((XA p).st.idxOf s) 0).toNat := Bf.wrd_length _ _ _ _ _
    rw [← h1] at h2
    have := h.1; have := h.2
    show (wdB p (XA p) ((XA p).st.idxOf s)).length ≤ 200
    omega
  · simp
noncomputable def wbP (p : Pz) (a b : List Int) : List Int × Bool := if okB p a b then owP p (comp (invp b) a) else ([], false)
theorem wbP_len (p : Pz) (a b : List Int) : (wbP p a b).1.length ≤ 200 := by
  unfold wbP
  split
  · exact owP_len _ _
  · simp
theorem specWordBetween_ok (p : Pz) (a b : List Int) (d : Nat) : AC Try.prog 72 [pz p, ints a, ints b] Hp.emp (fun _ => false) (retIB d (wbP p a b).1 (wbP p a b).2) := by
  have hsb := stateBetween_ok p a b 14
  have hy : okB p a b → (btwR p a b).1 = comp (invp b) a ∧ (btwR p a b).2 = true := fun h => by unfold btwR; rw [if_pos h]; exact ⟨rfl, rfl⟩
  have hn : ¬ okB p a b → (btwR p a b).2 = false := fun h => by unfold btwR; rw [if_neg h]
  by_cases h : okB p a b
  · obtain ⟨e1, e2⟩ := hy h
    have e3 : wbP p a b = ((owP p (comp (invp b) a)).1, (owP p (comp (invp b) a)).2) := if_pos h
    rw [e1, e2] at hsb
    refine ac_of_awp (N := ⟨_, fun _ => false, fun _ _ => rfl⟩) Try.func72 rfl (by kernel_rfl) Try.ntmps72 (by simp) ?_
    simp only [argsFr, List.zipIdx_cons, List.zipIdx_nil, go_sem]
    repeat' (first | refine awp_seqK fun K hK => ?_ | (refine awp_regionK 263119 rfl ?_; simp only [List.map_cons, List.map_nil]; simp (maxSteps := 1000000) (dsimp := false) (implicitDefEqProofs := false) (disch := omega) only [wrap64, go_sem]) | (refine awp_regionQK 263119 (by kernel_rfl) (by kernel_rfl) (by kernel_rfl) ?_; simp only [List.map_cons, List.map_nil]; simp (maxSteps := 1000000) (dsimp := false) (implicitDefEqProofs := false) (disch := omega) only [wrap64, go_sem]) | refine awp_block ?_ | (refine awp_skip ?_; simp only [go_sem]) | (refine awp_exit ?_; simp only [go_sem]) | (refine awp_ret ?_; try simp only [go_sem]) | (refine awp_condP rfl ?_; try simp only [go_sem]) | (refine BrP.mk (fun h => ?_) (fun h => ?_) <;> try simp (dsimp := false) (disch := omega) only [wrap64]) | (refine Br.mk (fun h => ?_) (fun h => ?_) <;> try simp (dsimp := false) (disch := omega) only [wrap64]) | refine Ob.mk (by first | omega | (intro _ _; rfl) | trivial | (intros; trivial) | assumption | (intro i hi; have h0 : i = 0 := (by omega); subst h0; first | rfl | trivial) | (intro i hi; have h0 : i = 0 ∨ i = 1 := (by omega); rcases h0 with rfl | rfl <;> rfl) | (intro i hi; have h0 : i = 0 ∨ i = 1 ∨ i = 2 := (by omega); rcases h0 with rfl | rfl | rfl <;> rfl)) ?_ | ((first | (refine cIB (hac := hsb) (hK := ?_)) | ((first | refine atF (f := 70) ?_ | refine atQ (f := 70) ?_); (first | (refine cIB (hac := specOptimalWord_ok p (comp (invp b) a) 22) (hK := ?_))))); simp (maxSteps := 1000000) (dsimp := false) (implicitDefEqProofs := false) (disch := omega) only [wrap64, go_sem]) | apply_assumption -exfalso -symm)
    all_goals (first | (show endQ _ _ _ _ _ _ _; (repeat (rename (∀ (A : Fr) (H : Hp), AWP _ _ _ _ A H → _) => hK; clear hK)); (repeat (rename (Fr → Hp → Prop) => K; clear K))) | (show Exists _; (repeat (rename (∀ (A : Fr) (H : Hp), AWP _ _ _ _ A H → _) => hK; clear hK)); (repeat (rename (Fr → Hp → Prop) => K; clear K))) | skip)
    · exact end_retIB' rfl rfl rfl rfl e3 (by decide) rfl rfl
  · rw [hn h] at hsb
    have e3 : wbP p a b = ([], false) := if_neg h
    refine ac_of_awp (N := ⟨_, fun _ => false, fun _ _ => rfl⟩) Try.func72 rfl (by kernel_rfl) Try.ntmps72 (by simp) ?_
    simp only [argsFr, List.zipIdx_cons, List.zipIdx_nil, go_sem]
    repeat' (first | refine awp_seqK fun K hK => ?_ | (refine awp_regionK 263119 rfl ?_; simp only [List.map_cons, List.map_nil]; simp (maxSteps := 1000000) (dsimp := false) (implicitDefEqProofs := false) (disch := omega) only [wrap64, go_sem]) | (refine awp_regionQK 263119 (by kernel_rfl) (by kernel_rfl) (by kernel_rfl) ?_; simp only [List.map_cons, List.map_nil]; simp (maxSteps := 1000000) (dsimp := false) (implicitDefEqProofs := false) (disch := omega) only [wrap64, go_sem]) | refine awp_block ?_ | (refine awp_skip ?_; simp only [go_sem]) | (refine awp_exit ?_; simp only [go_sem]) | (refine awp_ret ?_; try simp only [go_sem]) | (refine awp_condP rfl ?_; try simp only [go_sem]) | (refine BrP.mk (fun h => ?_) (fun h => ?_) <;> try simp (dsimp := false) (disch := omega) only [wrap64]) | (refine Br.mk (fun h => ?_) (fun h => ?_) <;> try simp (dsimp := false) (disch := omega) only [wrap64]) | refine Ob.mk (by first | omega | (intro _ _; rfl) | trivial | (intros; trivial) | assumption | (intro i hi; have h0 : i = 0 := (by omega); subst h0; first | rfl | trivial) | (intro i hi; have h0 : i = 0 ∨ i = 1 := (by omega); rcases h0 with rfl | rfl <;> rfl) | (intro i hi; have h0 : i = 0 ∨ i = 1 ∨ i = 2 := (by omega); rcases h0 with rfl | rfl | rfl <;> rfl)) ?_ | ((first | (refine cIB (hac := hsb) (hK := ?_))); simp (maxSteps := 1000000) (dsimp := false) (implicitDefEqProofs := false) (disch := omega) only [wrap64, go_sem]) | apply_assumption -exfalso -symm)
    all_goals (first | (show endQ _ _ _ _ _ _ _; (repeat (rename (∀ (A : Fr) (H : Hp), AWP _ _ _ _ A H → _) => hK; clear hK)); (repeat (rename (Fr → Hp → Prop) => K; clear K))) | (show Exists _; (repeat (rename (∀ (A : Fr) (H : Hp), AWP _ _ _ _ A H → _) => hK; clear hK)); (repeat (rename (Fr → Hp → Prop) => K; clear K))) | skip)
    · exact end_retIB' rfl rfl rfl rfl e3 (by decide) rfl rfl
theorem implWordBetween_ok (p : Pz) (a b : List Int) (hs0 : p.s.size ≤ 140737488355328) (d : Nat) : AC Try.prog 73 [pz p, ints a, ints b] Hp.emp (fun _ => false) (retIB d (wbP p a b).1 (wbP p a b).2) := by
  have hc := fun (h : okB p a b) => optimalWord_ok p (XA p) _ (XA_whole h.1).1 (XA_whole h.1).2.1 (XA_whole h.1).2.2 (List.idxOf_lt_length_iff.2 (XA_btw h.1 h.2.2.2.1 h.2.2.2.2))
  have hy : okB p a b → wbP p a b = ((owB p (XA p) ((XA p).st.idxOf (comp (invp b) a))).1, (owB p (XA p) ((XA p).st.idxOf (comp (invp b) a))).2) := fun h => (if_pos h).trans (ow_eq h.1 ⟨btw_st h, XA_btw h.1 h.2.2.2.1 h.2.2.2.2⟩)
  refine ac_of_awp (N := ⟨_, fun _ => false, fun _ _ => rfl⟩) Try.func73 rfl (by kernel_rfl) Try.ntmps73 (by simp) ?_
  simp only [argsFr, List.zipIdx_cons, List.zipIdx_nil, go_sem]
  repeat' (first | ((first | refine atF (f := 119) ?_ | refine atQ (f := 119) ?_); refine callB3 (between_ok p a b hs0) rfl (fun hX => ?_) (fun hX => ?_) <;> simp (maxSteps := 1000000) (dsimp := false) (implicitDefEqProofs := false) (disch := omega) only [wrap64, go_sem, pM_low]) | refine awp_seqK fun K hK => ?_ | (refine awp_regionK 1050575 rfl ?_; simp only [List.map_cons, List.map_nil]; simp (maxSteps := 1000000) (dsimp := false) (implicitDefEqProofs := false) (disch := omega) only [wrap64, go_sem, pM_low]) | (refine awp_regionQK 1050575 (by kernel_rfl) (by kernel_rfl) (by kernel_rfl) ?_; simp only [List.map_cons, List.map_nil]; simp (maxSteps := 1000000) (dsimp := false) (implicitDefEqProofs := false) (disch := omega) only [wrap64, go_sem, pM_low]) | refine awp_block ?_ | (refine awp_skip ?_; simp only [go_sem, pM_low]) | (refine awp_exit ?_; simp only [go_sem, pM_low]) | (refine awp_ret ?_; try simp only [go_sem, pM_low]) | (refine awp_condP rfl ?_; try simp only [go_sem, pM_low]) | (refine BrP.mk (fun h => ?_) (fun h => ?_) <;> try simp (dsimp := false) (disch := omega) only [wrap64]) | (refine Br.mk (fun h => ?_) (fun h => ?_) <;> try simp (dsimp := false) (disch := omega) only [wrap64]) | refine Ob.mk (by first | omega | (intro _ _; rfl) | trivial | (intros; trivial) | assumption | (intro i hi; have h0 : i = 0 := (by omega); subst h0; first | rfl | trivial) | (intro i hi; have h0 : i = 0 ∨ i = 1 := (by omega); rcases h0 with rfl | rfl <;> rfl) | (intro i hi; have h0 : i = 0 ∨ i = 1 ∨ i = 2 := (by omega); rcases h0 with rfl | rfl | rfl <;> rfl)) ?_ | ((first | ((first | refine atF (f := 121) ?_ | refine atQ (f := 121) ?_); refine callEx (by omega) (by unfold exH exR; repeat' (first | exact Hp.le_emp _ | refine Hp.le_upd rfl ?_)) (hc (by assumption)) rfl (fun q h => tup2_ownV q h) ?_)); simp (maxSteps := 1000000) (dsimp := false) (implicitDefEqProofs := false) (disch := omega) only [wrap64, go_sem, pM_low]) | apply_assumption -exfalso -symm)
  all_goals (first | (show endQ _ _ _ _ _ _ _; (repeat (rename (∀ (A : Fr) (H : Hp), AWP _ _ _ _ A H → _) => hK; clear hK)); (repeat (rename (Fr → Hp → Prop) => K; clear K))) | (show Exists _; (repeat (rename (∀ (A : Fr) (H : Hp), AWP _ _ _ _ A H → _) => hK; clear hK)); (repeat (rename (Fr → Hp → Prop) => K; clear K))) | skip)
  · exact end_retIB' rfl rfl rfl rfl (hy (by assumption)) (by decide) rfl rfl
  · exact end_retIB_nil' rfl rfl rfl (if_neg (by assumption)) (by decide) rfl
end Go.Proofs.Ytdllbnchcjgcdaa
