import Derived.Test.YtdllbnchcjgcdaaF9
/- How many shortest words there are. -/
namespace Go.Proofs.Ytdllbnchcjgcdaa
open Go.Av
set_option linter.unusedSimpArgs false
set_option linter.unusedVariables false
attribute [local irreducible] AWP CallG Ob Br BrP Go.Av.Sub endQ AOps OpV AC thenA blkA opsVC opVC withA withArgs opsQ opQ CallQ withA2 withArgs2
open Go.Pm (Pm comp invp idn img Gen Bf srch sorts srtN Srt slot sidx insAt capM sumS)
theorem capM_min (x : Int) : min x 1000000000001 = capM x := by unfold capM; split <;> omega
theorem cls_nb {B : Bf} {k m j : Nat} (hj : j < (B.cls k m).length) : (B.cls k m).getD j 0 < m ∧ B.dn k ((B.cls k m).getD j 0) = true ∧ (B.clS k m).getD j 0 = (B.nx.getD k []).getD ((B.cls k m).getD j 0) 0 := by
  have h1 : (B.cls k m).getD j 0 ∈ B.cls k m := by
    rw [List.getD_eq_getElem?_getD, List.getElem?_eq_getElem hj]; exact List.getElem_mem hj
  have h2 := List.mem_filter.1 h1
  refine ⟨List.mem_range.1 h2.1, h2.2, ?_⟩
  unfold Bf.clS
  have e : (B.cls k m)[j]? = some ((B.cls k m).getD j 0) := by rw [List.getD_eq_getElem?_getD, List.getElem?_eq_getElem hj]; rfl
  rw [List.getD_eq_getElem?_getD, List.getElem?_map, e]; rfl
theorem clS_rng {p : Pz} {B : Bf} (hw : Bf.Whole p.n.toNat (lsP p) (idn p.n.toNat) B) {k j : Nat} (hk : k < B.st.length) (hj : j < (B.clS k (lsP p).length).length) : 0 ≤ (B.clS k (lsP p).length).getD j 0 ∧ ((B.clS k (lsP p).length).getD j 0).toNat < k := by
  rw [clS_cls] at hj
  obtain ⟨h1, h2, h3⟩ := cls_nb hj
  have h4 := hw.nxb hk h1
  rw [h3]
  refine ⟨h4.1, ?_⟩
  have h5 : B.dp.getD ((B.nx.getD k []).getD ((B.cls k (lsP p).length).getD j 0) 0).toNat 0 < B.dp.getD k 0 := of_decide_eq_true h2
  refine Nat.lt_of_not_le fun hle => ?_
  have := hw.mono _ _ hle h4.2
  omega
theorem cnz_end (B : Bf) (m i : Nat) : (B.cnz m i (i + 1)).getD i 0 = (B.cnt m i).getD i 0 := by
  unfold Bf.cnz
  exact Go.Pm.getD_app (by rw [Bf.cnt_length]; omega)
noncomputable def ocP (p : Pz) (s : List Int) : Int := if 0 ≤ dstP p s ∧ ¬ ((XA p).cnt (lsP p).length ((XA p).st.idxOf s)).getD ((XA p).st.idxOf s) 0 > 1000000000000 then ((XA p).cnt (lsP p).length ((XA p).st.idxOf s)).getD ((XA p).st.idxOf s) 0 else -1
theorem implOptimalWordCount_ok (p : Pz) (s : List Int) (hs0 : p.s.size ≤ 140737488355328) : AC Try.prog 65 [pz p, ints s] Hp.emp (fun _ => false) (retV (.v (.int .i64 (ocP p s)))) := by
  obtain ⟨hb1, hb2⟩ := XA_basic p
  have hfd := fun k : isSt p s ∧ s ∈ (XA p).st => fdI_yes k
  have hil : isSt p s ∧ s ∈ (XA p).st → (XA p).st.idxOf s < (XA p).st.length := fun k => List.idxOf_lt_length_iff.2 k.2
  have hfb : 0 ≤ fdI p (XA p) s ∧ fdI p (XA p) s < 3000 := by
    unfold fdI
    split
    · have := hil ‹_›; omega
    · omega
  have hrl : (List.replicate (fdI p (XA p) s + 1).toNat (0 : Int)).length = (fdI p (XA p) s + 1).toNat := List.length_replicate
  refine ac_of_awp (N := ⟨_, fun _ => false, fun _ _ => rfl⟩) Try.func65 rfl (by kernel_rfl) Try.ntmps65 (by simp) ?_
  simp only [argsFr, List.zipIdx_cons, List.zipIdx_nil, go_sem]
  repeat' (first | ((first | refine atF (f := 106) ?_ | refine atQ (f := 106) ?_); refine callS3 (exploreState_ok p s hs0) rfl (fun hX => ?_) (fun hX => ?_) <;> simp (maxSteps := 1000000) (dsimp := false) (implicitDefEqProofs := false) (disch := omega) only [wrap64, go_sem, pM_low]) | refine awp_seqK fun K hK => ?_ | (refine awp_regionK 9223380284269931511 rfl ?_; simp only [List.map_cons, List.map_nil]; simp (maxSteps := 1000000) (dsimp := false) (implicitDefEqProofs := false) (disch := omega) only [wrap64, go_sem, pM_low]) | (refine awp_regionQK 9223380284269931511 (by kernel_rfl) (by kernel_rfl) (by kernel_rfl) ?_; simp only [List.map_cons, List.map_nil]; simp (maxSteps := 1000000) (dsimp := false) (implicitDefEqProofs := false) (disch := omega) only [wrap64, go_sem, pM_low]) | refine awp_block ?_ | (refine awp_skip ?_; simp only [go_sem, pM_low]) | (refine awp_exit ?_; simp only [go_sem, pM_low]) | (refine awp_ret ?_; try simp only [go_sem, pM_low]) | (refine awp_condP rfl ?_; try simp only [go_sem, pM_low]) | (refine BrP.mk (fun h => ?_) (fun h => ?_) <;> try simp (dsimp := false) (disch := omega) only [wrap64]) | (refine Br.mk (fun h => ?_) (fun h => ?_) <;> try simp (dsimp := false) (disch := omega) only [wrap64]) | refine Ob.mk (by first | omega | (intro _ _; rfl) | trivial | (intros; trivial) | assumption | (intro i hi; have h0 : i = 0 := (by omega); subst h0; first | rfl | trivial) | (intro i hi; have h0 : i = 0 ∨ i = 1 := (by omega); rcases h0 with rfl | rfl <;> rfl) | (intro i hi; have h0 : i = 0 ∨ i = 1 ∨ i = 2 := (by omega); rcases h0 with rfl | rfl | rfl <;> rfl)) ?_ | apply_assumption -exfalso -symm)
  all_goals (first | (show endQ _ _ _ _ _ _ _; (repeat (rename (∀ (A : Fr) (H : Hp), AWP _ _ _ _ A H → _) => hK; clear hK)); (repeat (rename (Fr → Hp → Prop) => K; clear K))) | (show Exists _; (repeat (rename (∀ (A : Fr) (H : Hp), AWP _ _ _ _ A H → _) => hK; clear hK)); (repeat (rename (Fr → Hp → Prop) => K; clear K))) | skip)
  · obtain ⟨hz, hw, hx⟩ := XA_whole (by assumption)
    have hmem := (by assumption : isSt p s ∧ s ∈ (XA p).st)
    have hil := hil hmem
    have e1 := hfd hmem
    have hoc : ocP p s = if ¬ ((XA p).cnt (lsP p).length ((XA p).st.idxOf s)).getD ((XA p).st.idxOf s) 0 > 1000000000000 then ((XA p).cnt (lsP p).length ((XA p).st.idxOf s)).getD ((XA p).st.idxOf s) 0 else -1 := by
      unfold ocP
      simp only [dst_yes (by assumption) hmem, true_and]
    obtain ⟨i, hi⟩ : ∃ i, i = (XA p).st.idxOf s := ⟨_, rfl⟩
    rw [← hi] at hil e1 hoc
    rw [e1, show ((i : Int) + 1).toNat = i + 1 by omega]
    have hcl := fun {k} (hk : k < (XA p).st.length) => closer_ok p (XA p) k hz hw hx hk
    have hcr := fun {k} (hk : k < (XA p).st.length) j hj => clS_rng (j := j) hw hk hj
    have hbd := (XA p).cnt_bd (lsP p).length
    clear hw hrl hfd hfb
    refine awp_loop (ι := Nat) (fun k => [(9, .v (.int .i64 (k))), (8, .own 25 0 1 (i + 1)), (6, .v (.int .i64 (i))), (5, .ref 1000000 0)]) (fun k => (exH p (XA p)).upd 25 (.cells (i + 1) (cM iv 0 ((XA p).cnz (lsP p).length i k)))) (fun k => 1 ≤ k ∧ k ≤ i + 1) (fun k => i + 1 - k) 1 (by omega) (Sub.toL (by simp only [go_sem] <;> first | trivial | (simp only [Option.some.injEq, AV.v.injEq, AV.own.injEq, AV.list.injEq, Value.int.injEq, Value.bool.injEq, true_and, and_true]; first | omega | (simp; done)) | (simp; done) | (simp; omega)) (by unfold exH exR; exact Hp.le_upd rfl (Hp.le_upd rfl (Hp.le_upd rfl (Hp.le_emp _))))) ?_
    rintro k ⟨hk0, hk⟩
    have hcl := fun h => hcl (k := k) h
    have hcr := fun h => hcr (k := k) h
    have hzl := (XA p).cnz_length (lsP p).length hk0 hk
    unfold exH exR
    repeat' (first | refine awp_seqK fun K hK => ?_ | (refine awp_regionK 9223380284269931511 rfl ?_; simp only [List.map_cons, List.map_nil]; simp (maxSteps := 1000000) (dsimp := false) (implicitDefEqProofs := false) (disch := omega) only [wrap64, go_sem]) | (refine awp_regionQK 9223380284269931511 (by kernel_rfl) (by kernel_rfl) (by kernel_rfl) ?_; simp only [List.map_cons, List.map_nil]; simp (maxSteps := 1000000) (dsimp := false) (implicitDefEqProofs := false) (disch := omega) only [wrap64, go_sem]) | refine awp_block ?_ | (refine awp_skip ?_; simp only [go_sem]) | (refine awp_exit ?_; simp only [go_sem]) | (refine awp_ret ?_; try simp only [go_sem]) | (refine awp_condP rfl ?_; try simp only [go_sem]) | (refine BrP.mk (fun h => ?_) (fun h => ?_) <;> try simp (dsimp := false) (disch := omega) only [wrap64]) | (refine Br.mk (fun h => ?_) (fun h => ?_) <;> try simp (dsimp := false) (disch := omega) only [wrap64]) | refine Ob.mk (by first | omega | (intro _ _; rfl) | trivial | (intros; trivial) | assumption | (intro i hi; have h0 : i = 0 := (by omega); subst h0; first | rfl | trivial) | (intro i hi; have h0 : i = 0 ∨ i = 1 := (by omega); rcases h0 with rfl | rfl <;> rfl) | (intro i hi; have h0 : i = 0 ∨ i = 1 ∨ i = 2 := (by omega); rcases h0 with rfl | rfl | rfl <;> rfl)) ?_ | ((first | ((first | refine atF (f := 117) ?_ | refine atQ (f := 117) ?_); refine callEx (p := p) (B := XA p) (by omega) (by unfold exH exR; repeat' (first | exact Hp.le_emp _ | refine Hp.le_upd rfl ?_)) (hcl (by omega)) rfl (fun q h => tup2_own q h) ?_)); simp (maxSteps := 1000000) (dsimp := false) (implicitDefEqProofs := false) (disch := omega) only [wrap64, go_sem]) | apply_assumption -exfalso -symm)
    all_goals (first | (show endQ _ _ _ _ _ _ _; (repeat (rename (∀ (A : Fr) (H : Hp), AWP _ _ _ _ A H → _) => hK; clear hK)); (repeat (rename (Fr → Hp → Prop) => K; clear K))) | (show Exists _; (repeat (rename (∀ (A : Fr) (H : Hp), AWP _ _ _ _ A H → _) => hK; clear hK)); (repeat (rename (Fr → Hp → Prop) => K; clear K))) | skip)
    · have hwb := (XA p).clS_len (lets p.m.length) k (lsP p).length
      have hwc := (XA p).clF_le (lets p.m.length) k (lsP p).length
      obtain ⟨w, hwd⟩ : ∃ w, w = (XA p).clS k (lsP p).length := ⟨_, rfl⟩
      have hcr := hcr (by omega)
      rw [← hwd] at hcr hwb ⊢
      have hm := hz.1.2.1
      have hlm := lsP_length p
      refine awp_loop (ι := Nat) (fun j => [(41, .v (.int .i64 (j))), (40, .v (.int .i64 (w.length))), (39, .list false 1 (w).length (cM iv 0 (w))), (9, .v (.int .i64 (k))), (8, .own 25 0 1 (i + 1)), (6, .v (.int .i64 (i))), (5, .ref 1000000 0)]) (fun j => (exH p (XA p)).upd 25 (.cells (i + 1) (cM iv 0 (((XA p).cnz (lsP p).length i k).set k (capM (sumS ((XA p).cnt (lsP p).length (k - 1)) (w.take j))))))) (fun j => j ≤ w.length) (fun j => w.length - j) 0 (Nat.zero_le _) (Sub.toL (by simp only [go_sem] <;> first | trivial | (simp only [Option.some.injEq, AV.v.injEq, AV.own.injEq, AV.list.injEq, Value.int.injEq, Value.bool.injEq, true_and, and_true]; first | omega | (simp; done)) | (simp; done) | (simp; omega)) (by rw [List.take_zero, show capM (sumS ((XA p).cnt (lsP p).length (k - 1)) []) = 0 from rfl, Bf.cnz_0 _ _ (by omega) (by omega)]; unfold exH exR; exact Hp.le_upd rfl (Hp.le_upd rfl (Hp.le_upd rfl (Hp.le_emp _))))) ?_
      intro j hj
      have hcr := fun h => hcr j h
      have hsz : ((((XA p).cnz (lsP p).length i k).set k (capM (sumS ((XA p).cnt (lsP p).length (k - 1)) (w.take j)))).length) = i + 1 := by rw [List.length_set]; exact hzl
      have hat := (XA p).cnz_at (lsP p).length (i := i) (k := k) (capM (sumS ((XA p).cnt (lsP p).length (k - 1)) (w.take j))) hk0 (by omega)
      have hgt := fun h => (XA p).cnz_get (lsP p).length (i := i) (k := k) (t := (w.getD j 0).toNat) (capM (sumS ((XA p).cnt (lsP p).length (k - 1)) (w.take j))) h
      have hb1 := hbd (k - 1) (w.getD j 0).toNat
      have hb2 := Go.Pm.sumS_bd (hbd (k - 1)) (w.take j)
      have hb3 := Go.Pm.capM_bd hb2.1
      have hgt2 : j < w.length → _ := fun h => hgt (hcr h).2
      unfold exH exR
      repeat' (first | (refine awp_regionEK (id := 13) 9223380284269931511 12 (by kernel_rfl) (by kernel_rfl) (by kernel_rfl) ?_; simp only [List.map_cons, List.map_nil, opsE, List.take_succ_cons, List.take_zero, List.drop_succ_cons, List.drop_zero]; simp (maxSteps := 1000000) (dsimp := false) (implicitDefEqProofs := false) (disch := omega) only [wrap64, go_sem, hat, hgt2, capM_min]) | refine awp_seqK fun K hK => ?_ | (refine awp_regionK 9223380284269931511 rfl ?_; simp only [List.map_cons, List.map_nil]; simp (maxSteps := 1000000) (dsimp := false) (implicitDefEqProofs := false) (disch := omega) only [wrap64, go_sem, hat, hgt2, capM_min]) | (refine awp_regionQK 9223380284269931511 (by kernel_rfl) (by kernel_rfl) (by kernel_rfl) ?_; simp only [List.map_cons, List.map_nil]; simp (maxSteps := 1000000) (dsimp := false) (implicitDefEqProofs := false) (disch := omega) only [wrap64, go_sem, hat, hgt2, capM_min]) | refine awp_block ?_ | (refine awp_skip ?_; simp only [go_sem, hat, hgt2, capM_min]) | (refine awp_exit ?_; simp only [go_sem, hat, hgt2, capM_min]) | (refine awp_ret ?_; try simp only [go_sem, hat, hgt2, capM_min]) | (refine awp_condP rfl ?_; try simp only [go_sem, hat, hgt2, capM_min]) | (refine BrP.mk (fun h => ?_) (fun h => ?_) <;> try simp (dsimp := false) (disch := omega) only [wrap64]) | (refine Br.mk (fun h => ?_) (fun h => ?_) <;> try simp (dsimp := false) (disch := omega) only [wrap64]) | refine Ob.mk (by first | omega | (intro _ _; rfl) | trivial | (intros; trivial) | assumption | (intro i hi; have h0 : i = 0 := (by omega); subst h0; first | rfl | trivial) | (intro i hi; have h0 : i = 0 ∨ i = 1 := (by omega); rcases h0 with rfl | rfl <;> rfl) | (intro i hi; have h0 : i = 0 ∨ i = 1 ∨ i = 2 := (by omega); rcases h0 with rfl | rfl | rfl <;> rfl)) ?_ | apply_assumption -exfalso -symm)
      all_goals (first | (show endQ _ _ _ _ _ _ _; (repeat (rename (∀ (A : Fr) (H : Hp), AWP _ _ _ _ A H → _) => hK; clear hK)); (repeat (rename (Fr → Hp → Prop) => K; clear K))) | (show Exists _; (repeat (rename (∀ (A : Fr) (H : Hp), AWP _ _ _ _ A H → _) => hK; clear hK)); (repeat (rename (Fr → Hp → Prop) => K; clear K))) | skip)
      · refine ⟨j + 1, by omega, by omega, ?_⟩
        rw [List.set_set, Go.Pm.capM_cap hb1.1, ← Go.Pm.sumS_snoc, ← Go.Pm.take_snoc (by omega)]
        exact Sub.toL (by simp only [go_sem] <;> first | trivial | (simp only [Option.some.injEq, AV.v.injEq, AV.own.injEq, AV.list.injEq, Value.int.injEq, Value.bool.injEq, true_and, and_true]; first | omega | (simp; done)) | (simp; done) | (simp; omega)) (by (repeat' (first | exact Hp.le_emp _ | exact Hp.le_refl _ | refine Hp.le_upd ?_ ?_)); all_goals (first | rfl | (simp only [go_sem]; first | rfl | (refine cellsE ?_ ?_ <;> (simp)) | (simp))))
      · have e : j = w.length := by omega
        subst e
        refine ⟨k + 1, ⟨by omega, by omega⟩, by omega, ?_⟩
        rw [List.take_length, hwd, Bf.cnz_set _ _ hk0 (by omega)]
        exact Sub.toL (by simp only [go_sem] <;> first | trivial | (simp only [Option.some.injEq, AV.v.injEq, AV.own.injEq, AV.list.injEq, Value.int.injEq, Value.bool.injEq, true_and, and_true]; first | omega | (simp; done)) | (simp; done) | (simp; omega)) (by (repeat' (first | exact Hp.le_emp _ | exact Hp.le_refl _ | refine Hp.le_upd ?_ ?_)); all_goals (first | rfl | (simp only [go_sem]; first | rfl | (refine cellsE ?_ ?_ <;> (simp)) | (simp))))
    · have e : k = i + 1 := by omega
      subst e
      refine end_retN rfl rfl ?_
      rw [cnz_end] at *
      rw [hoc, if_neg (by omega)]
    · have e : k = i + 1 := by omega
      subst e
      refine end_retN rfl rfl ?_
      rw [cnz_end] at *
      rw [hoc, if_pos (by omega)]
  · refine end_retN rfl rfl ?_
    exact (if_neg fun k => absurd (dstP_st k.1).2 (by assumption)).symm
  · refine end_retN rfl rfl ?_
    exact (if_neg fun k => absurd (dstP_st k.1).1 (by rw [(by assumption : (XS p).isSome = false)]; exact Bool.false_ne_true)).symm
theorem nb_idx {p : Pz} (h : (XS p).isSome = true) {s : List Int} (hs : s ∈ (XA p).st) {i : Nat} (hi : i < (lsP p).length) : AC Try.prog 103 [slA (XA p).st (sorts (XA p).st), ints (nbP p s i)] Hp.emp (fun _ => false) (retV (.v (.int .i64 ((((XA p).st.idxOf (nbP p s i) : Nat) : Int))))) := by
  have h1 := nb_st h hs hi
  have e : sidx (XA p).st (nbP p s i) = (((XA p).st.idxOf (nbP p s i) : Nat) : Int) := if_pos h1
  rw [← e]
  exact idxP_ok h (XA_isSt h h1).len
theorem specCountOptimal_ok (p : Pz) (h : (XS p).isSome = true) (d : Nat) : AC Try.prog 116 [pz p, sFw (XA p).st (XA p).dp (sorts (XA p).st) true] Hp.emp (fun _ => false) (retI d ((XA p).cnt (lsP p).length ((XA p).st.length - 1))) := by
  obtain ⟨hz, hw, hxx⟩ := XA_whole h
  have hm := hz.1.2.1
  have hlm := lsP_length p
  have hll := lets_length p.m.length
  have hpos := hw.pos
  have hld := hw.ld
  have hnn := fun {k} (hk : k < (XA p).st.length) i (hi : i < (lsP p).length) => nb_nx h (Go.Pm.mem_getD hk) hi
  have hdn := fun {k} (hk : k < (XA p).st.length) i (hi : i < (lsP p).length) => nb_dn h (Go.Pm.mem_getD hk) hi
  have hns := fun {k} (hk : k < (XA p).st.length) i (hi : i < (lsP p).length) => nb_st h (Go.Pm.mem_getD hk) hi
  have hni := fun {k} (hk : k < (XA p).st.length) i (hi : i < (lsP p).length) => nb_idx h (Go.Pm.mem_getD hk) hi
  have hst : ∀ {q}, q < (XA p).st.length → _ := fun hq => isSt_rng (XA_isSt h (Go.Pm.mem_getD hq))
  have hid := fun {q} (hq : q < (XA p).st.length) => hw.idx hq
  have hlt := fun {k} (hk : k < (XA p).st.length) {i} (hi : i < (lsP p).length) => (hw.nxb hk hi).2
  have hmo := fun {k} (hk : k < (XA p).st.length) j (hj : j < (XA p).st.length) (hd : (XA p).dp.getD j 0 < (XA p).dp.getD k 0) => (Nat.lt_of_not_le fun hle => by have := hw.mono k j hle hj; omega : j < k)
  have hdk := fun {k} (hk : k < (XA p).st.length) => hw.le k hk
  clear hw
  unfold sFw
  refine ac_of_awp (N := ⟨_, fun _ => false, fun _ _ => rfl⟩) Try.func116 rfl (by kernel_rfl) Try.ntmps116 (by simp) ?_
  simp only [argsFr, List.zipIdx_cons, List.zipIdx_nil, go_sem]
  repeat' (first | refine awp_seqK fun K hK => ?_ | (refine awp_regionK 2251799830726655 rfl ?_; simp only [List.map_cons, List.map_nil]; simp (maxSteps := 1000000) (dsimp := false) (implicitDefEqProofs := false) (disch := omega) only [wrap64, go_sem]) | (refine awp_regionQK 2251799830726655 (by kernel_rfl) (by kernel_rfl) (by kernel_rfl) ?_; simp only [List.map_cons, List.map_nil]; simp (maxSteps := 1000000) (dsimp := false) (implicitDefEqProofs := false) (disch := omega) only [wrap64, go_sem]) | refine awp_block ?_ | (refine awp_skip ?_; simp only [go_sem]) | (refine awp_exit ?_; simp only [go_sem]) | (refine awp_ret ?_; try simp only [go_sem]) | (refine awp_condP rfl ?_; try simp only [go_sem]) | (refine BrP.mk (fun h => ?_) (fun h => ?_) <;> try simp (dsimp := false) (disch := omega) only [wrap64]) | (refine Br.mk (fun h => ?_) (fun h => ?_) <;> try simp (dsimp := false) (disch := omega) only [wrap64]) | refine Ob.mk (by first | omega | (intro _ _; rfl) | trivial | (intros; trivial) | assumption | (intro i hi; have h0 : i = 0 := (by omega); subst h0; first | rfl | trivial) | (intro i hi; have h0 : i = 0 ∨ i = 1 := (by omega); rcases h0 with rfl | rfl <;> rfl) | (intro i hi; have h0 : i = 0 ∨ i = 1 ∨ i = 2 := (by omega); rcases h0 with rfl | rfl | rfl <;> rfl)) ?_ | ((first | ((first | refine atF (f := 109) ?_ | refine atQ (f := 109) ?_); (first | (refine cFI (hac := lettersOf_ok p (by omega) 13) (hK := ?_)) | (refine cQI (hac := lettersOf_ok p (by omega) 13) (hK := ?_))))); simp (maxSteps := 1000000) (dsimp := false) (implicitDefEqProofs := false) (disch := omega) only [wrap64, go_sem]) | apply_assumption -exfalso -symm)
  all_goals (first | (show endQ _ _ _ _ _ _ _; (repeat (rename (∀ (A : Fr) (H : Hp), AWP _ _ _ _ A H → _) => hK; clear hK)); (repeat (rename (Fr → Hp → Prop) => K; clear K))) | (show Exists _; (repeat (rename (∀ (A : Fr) (H : Hp), AWP _ _ _ _ A H → _) => hK; clear hK)); (repeat (rename (Fr → Hp → Prop) => K; clear K))) | skip)
  refine awp_loop (ι := Nat) (fun k => [(7, .v (.int .i64 (k))), (6, .list false 1 (lets p.m.length).length (cM iv 0 (lets p.m.length))), (5, .own 11 0 1 ((XA p).cnt (lsP p).length (k - 1)).length), (3, .ref 3 0), (2, .ref 2 0)]) (fun k => (((Hp.emp.upd 2 (.cells 3 (vecF [.v (.int .i64 (p.n)), .v (.string (p.s)), .list false 1 (p.m).length (cM ints [] (p.m))]))).upd 3 (.cells 4 (vecF [.list false 1 ((XA p).st).length (cM ints [] ((XA p).st)), .list false 1 ((XA p).dp).length (cM iv 0 ((XA p).dp)), .list false 1 (sorts (XA p).st).length (cM iv 0 (sorts (XA p).st)), .v (.bool (true))]))).upd 11 (.cells ((XA p).cnt (lsP p).length (k - 1)).length (cM iv 0 ((XA p).cnt (lsP p).length (k - 1)))))) (fun k => 1 ≤ k ∧ k ≤ (XA p).st.length) (fun k => (XA p).st.length - k) 1 (by omega) (Sub.toL (by simp only [go_sem] <;> first | trivial | (simp only [Option.some.injEq, AV.v.injEq, AV.own.injEq, AV.list.injEq, Value.int.injEq, Value.bool.injEq, true_and, and_true]; first | omega | (simp; done)) | (simp; done) | (simp; omega)) (by (repeat' (first | exact Hp.le_emp _ | exact Hp.le_refl _ | refine Hp.le_upd ?_ ?_)); all_goals (first | rfl | (simp only [go_sem]; first | rfl | (refine cellsE ?_ ?_ <;> (simp)) | (simp))))) ?_
  rintro k ⟨hk0, hk⟩
  have hcl := (XA p).cnt_length (lsP p).length (k - 1)
  have hbd := (XA p).cnt_bd (lsP p).length (k - 1)
  obtain ⟨c, hc⟩ : ∃ c, c = (XA p).cnt (lsP p).length (k - 1) := ⟨_, rfl⟩
  rw [← hc] at hcl hbd ⊢
  repeat' (first | refine awp_seqK fun K hK => ?_ | (refine awp_regionK 2251799830726655 rfl ?_; simp only [List.map_cons, List.map_nil]; simp (maxSteps := 1000000) (dsimp := false) (implicitDefEqProofs := false) (disch := omega) only [wrap64, go_sem]) | (refine awp_regionQK 2251799830726655 (by kernel_rfl) (by kernel_rfl) (by kernel_rfl) ?_; simp only [List.map_cons, List.map_nil]; simp (maxSteps := 1000000) (dsimp := false) (implicitDefEqProofs := false) (disch := omega) only [wrap64, go_sem]) | refine awp_block ?_ | (refine awp_skip ?_; simp only [go_sem]) | (refine awp_exit ?_; simp only [go_sem]) | (refine awp_ret ?_; try simp only [go_sem]) | (refine awp_condP rfl ?_; try simp only [go_sem]) | (refine BrP.mk (fun h => ?_) (fun h => ?_) <;> try simp (dsimp := false) (disch := omega) only [wrap64]) | (refine Br.mk (fun h => ?_) (fun h => ?_) <;> try simp (dsimp := false) (disch := omega) only [wrap64]) | refine Ob.mk (by first | omega | (intro _ _; rfl) | trivial | (intros; trivial) | assumption | (intro i hi; have h0 : i = 0 := (by omega); subst h0; first | rfl | trivial) | (intro i hi; have h0 : i = 0 ∨ i = 1 := (by omega); rcases h0 with rfl | rfl <;> rfl) | (intro i hi; have h0 : i = 0 ∨ i = 1 ∨ i = 2 := (by omega); rcases h0 with rfl | rfl | rfl <;> rfl)) ?_ | apply_assumption -exfalso -symm)
  all_goals (first | (show endQ _ _ _ _ _ _ _; (repeat (rename (∀ (A : Fr) (H : Hp), AWP _ _ _ _ A H → _) => hK; clear hK)); (repeat (rename (Fr → Hp → Prop) => K; clear K))) | (show Exists _; (repeat (rename (∀ (A : Fr) (H : Hp), AWP _ _ _ _ A H → _) => hK; clear hK)); (repeat (rename (Fr → Hp → Prop) => K; clear K))) | skip)
  · have hkl : k < (XA p).st.length := by omega
    have hnn := hnn hkl
    have hdn := hdn hkl
    have hns := hns hkl
    have hni := hni hkl
    have hst := hst hkl
    have hid := hid hkl
    have hmo := hmo hkl
    have hdk := hdk hkl
    rw [hid] at hnn hdn
    obtain ⟨sk, hsk⟩ : ∃ sk, sk = (XA p).st.getD k [] := ⟨_, rfl⟩
    rw [← hsk] at hnn hdn hns hni hst
    refine awp_loop (ι := Nat) (fun i => [(9, .v (.int .i64 (i))), (8, .v (.int .i64 (sumS c ((XA p).clS k i)))), (7, .v (.int .i64 (k))), (6, .list false 1 (lets p.m.length).length (cM iv 0 (lets p.m.length))), (5, .own 11 0 1 c.length), (3, .ref 3 0), (2, .ref 2 0)]) (fun i => (((Hp.emp.upd 2 (.cells 3 (vecF [.v (.int .i64 (p.n)), .v (.string (p.s)), .list false 1 (p.m).length (cM ints [] (p.m))]))).upd 3 (.cells 4 (vecF [.list false 1 ((XA p).st).length (cM ints [] ((XA p).st)), .list false 1 ((XA p).dp).length (cM iv 0 ((XA p).dp)), .list false 1 (sorts (XA p).st).length (cM iv 0 (sorts (XA p).st)), .v (.bool (true))]))).upd 11 (.cells c.length (cM iv 0 c)))) (fun i => i ≤ (lsP p).length) (fun i => (lsP p).length - i) 0 (Nat.zero_le _) (Sub.toL (by simp only [go_sem] <;> first | trivial | (simp only [Option.some.injEq, AV.v.injEq, AV.own.injEq, AV.list.injEq, Value.int.injEq, Value.bool.injEq, true_and, and_true]; first | omega | (simp; done)) | (simp; done) | (simp; omega)) (by (repeat' (first | exact Hp.le_emp _ | exact Hp.le_refl _ | refine Hp.le_upd ?_ ?_)); all_goals (first | rfl | (simp only [go_sem]; first | rfl | (refine cellsE ?_ ?_ <;> (simp)) | (simp))))) ?_
    intro i hi
    have hcs := (XA p).clS_succ k i
    have hcn := (XA p).clS_len (lets p.m.length) k i
    have hcf := (XA p).clF_le (lets p.m.length) k i
    have hb2 := Go.Pm.sumS_bd hbd ((XA p).clS k i)
    have hl1 := lets_inL p.m i
    have hni := fun h => hni i h
    have hnb : comp sk (letP p.m ((lets p.m.length).getD i 0)) = nbP p sk i := rfl
    have hxl : i < (lsP p).length → (XA p).st.idxOf (nbP p sk i) < (XA p).st.length := fun h => List.idxOf_lt_length_iff.2 (hns i h)
    obtain ⟨x, hx⟩ : ∃ x, x = (XA p).st.idxOf (nbP p sk i) := ⟨_, rfl⟩
    have hnn := hnn i
    rw [← hx] at hni hxl hnn
    have hbx := hbd x
    have hmx : i < (lsP p).length → (XA p).dp.getD x 0 = (XA p).dp.getD k 0 - 1 → x < k := fun h h2 => hmo x (hxl h) (by omega)
    have hdx : i < (lsP p).length → ((XA p).dn k i = true ↔ (XA p).dp.getD x 0 = (XA p).dp.getD k 0 - 1) := fun h => by
      rw [hdn i h]
      unfold depD
      rw [if_pos (hns i h), ← hx]
    repeat' (first | (refine ob4 rfl rfl rfl rfl ?_) | refine awp_seqK fun K hK => ?_ | (refine awp_regionK 2251799830726655 rfl ?_; simp only [List.map_cons, List.map_nil]; simp (maxSteps := 1000000) (dsimp := false) (implicitDefEqProofs := false) (disch := omega) only [wrap64, go_sem, hsk.symm, hnb]) | (refine awp_regionQK 2251799830726655 (by kernel_rfl) (by kernel_rfl) (by kernel_rfl) ?_; simp only [List.map_cons, List.map_nil]; simp (maxSteps := 1000000) (dsimp := false) (implicitDefEqProofs := false) (disch := omega) only [wrap64, go_sem, hsk.symm, hnb]) | refine awp_block ?_ | (refine awp_skip ?_; simp only [go_sem, hsk.symm, hnb]) | (refine awp_exit ?_; simp only [go_sem, hsk.symm, hnb]) | (refine awp_ret ?_; try simp only [go_sem, hsk.symm, hnb]) | (refine awp_condP rfl ?_; try simp only [go_sem, hsk.symm, hnb]) | (refine BrP.mk (fun h => ?_) (fun h => ?_) <;> try simp (dsimp := false) (disch := omega) only [wrap64]) | (refine Br.mk (fun h => ?_) (fun h => ?_) <;> try simp (dsimp := false) (disch := omega) only [wrap64]) | refine Ob.mk (by first | omega | (intro _ _; rfl) | trivial | (intros; trivial) | assumption | (intro i hi; have h0 : i = 0 := (by omega); subst h0; first | rfl | trivial) | (intro i hi; have h0 : i = 0 ∨ i = 1 := (by omega); rcases h0 with rfl | rfl <;> rfl) | (intro i hi; have h0 : i = 0 ∨ i = 1 ∨ i = 2 := (by omega); rcases h0 with rfl | rfl | rfl <;> rfl)) ?_ | ((first | ((first | refine atF (f := 110) ?_ | refine atQ (f := 110) ?_); (first | (refine cFI (hac := applyLetter_ok p sk ((lets p.m.length).getD i 0) hz (hl1 (by omega)) (by omega) (fun j hj => by have := hst.2 j hj; omega) 25) (hK := ?_)) | (refine cQI (hac := applyLetter_ok p sk ((lets p.m.length).getD i 0) hz (hl1 (by omega)) (by omega) (fun j hj => by have := hst.2 j hj; omega) 25) (hK := ?_)))) | ((first | refine atF (f := 103) ?_ | refine atQ (f := 103) ?_); (first | refine cV (hfit := .cons (fits_slF rfl rfl) (.cons (.refl _) .nil)) (hac := hni (by omega)) (hK := ?_) | refine cQV (hfit := .cons (fits_slF rfl rfl) (.cons (.refl _) .nil)) (hac := hni (by omega)) (hK := ?_)))); simp (maxSteps := 1000000) (dsimp := false) (implicitDefEqProofs := false) (disch := omega) only [wrap64, go_sem, hsk.symm, hnb]) | apply_assumption -exfalso -symm)
    all_goals (first | (show endQ _ _ _ _ _ _ _; (repeat (rename (∀ (A : Fr) (H : Hp), AWP _ _ _ _ A H → _) => hK; clear hK)); (repeat (rename (Fr → Hp → Prop) => K; clear K))) | (show Exists _; (repeat (rename (∀ (A : Fr) (H : Hp), AWP _ _ _ _ A H → _) => hK; clear hK)); (repeat (rename (Fr → Hp → Prop) => K; clear K))) | skip)
    · rw [if_pos ((hdx (by omega)).2 (by assumption))] at hcs
      have e : sumS c ((XA p).clS k (i + 1)) = sumS c ((XA p).clS k i) + c.getD x 0 := by
        rw [hcs, Go.Pm.sumS_snoc, hnn (by omega), Int.toNat_natCast]
      refine ⟨i + 1, by omega, by omega, ?_⟩
      rw [e]
      exact Sub.toL (by simp only [go_sem] <;> first | trivial | (simp only [Option.some.injEq, AV.v.injEq, AV.own.injEq, AV.list.injEq, Value.int.injEq, Value.bool.injEq, true_and, and_true]; first | omega | (simp; done)) | (simp; done) | (simp; omega)) (by (repeat' (first | exact Hp.le_emp _ | exact Hp.le_refl _ | refine Hp.le_upd ?_ ?_)); all_goals (first | rfl | (simp only [go_sem]; first | rfl | (refine cellsE ?_ ?_ <;> (simp)) | (simp))))
    · rw [if_neg (fun h => absurd ((hdx (by omega)).1 h) (by assumption)), List.append_nil] at hcs
      refine ⟨i + 1, by omega, by omega, ?_⟩
      rw [hcs]
      exact Sub.toL (by simp only [go_sem] <;> first | trivial | (simp only [Option.some.injEq, AV.v.injEq, AV.own.injEq, AV.list.injEq, Value.int.injEq, Value.bool.injEq, true_and, and_true]; first | omega | (simp; done)) | (simp; done) | (simp; omega)) (by (repeat' (first | exact Hp.le_emp _ | exact Hp.le_refl _ | refine Hp.le_upd ?_ ?_)); all_goals (first | rfl | (simp only [go_sem]; first | rfl | (refine cellsE ?_ ?_ <;> (simp)) | (simp))))
    · have ei : i = (lsP p).length := by omega
      have e : (XA p).cnt (lsP p).length (k + 1 - 1) = c ++ [min (sumS c ((XA p).clS k i)) 1000000000001] := by
        rw [capM_min, ei, hc]
        obtain ⟨r, rfl⟩ : ∃ r, k = r + 1 := ⟨k - 1, by omega⟩
        rfl
      refine ⟨k + 1, ⟨by omega, by omega⟩, by omega, ?_⟩
      rw [e]
      exact Sub.toL (by simp only [go_sem] <;> first | trivial | (simp only [Option.some.injEq, AV.v.injEq, AV.own.injEq, AV.list.injEq, Value.int.injEq, Value.bool.injEq, true_and, and_true]; first | omega | (simp; done)) | (simp; done) | (simp; omega)) (by (repeat' (first | exact Hp.le_emp _ | exact Hp.le_refl _ | refine Hp.le_upd ?_ ?_)); all_goals (first | rfl | (simp only [go_sem]; first | rfl | (refine cellsE ?_ ?_ <;> (simp)) | (simp))))
  · exact end_retI' rfl rfl rfl (by rw [hc, show k = (XA p).st.length by omega]) rfl rfl
theorem specOptimalWordCount_ok (p : Pz) (s : List Int) : AC Try.prog 64 [pz p, ints s] Hp.emp (fun _ => false) (retV (.v (.int .i64 (ocP p s)))) := by
  have hac := searchState_ok p s
  have hsc := XAu_scrub p (fun _ => true) (XS p).isSome (.int .i64 (dstP p s)) (.bool (decide (0 ≤ dstP p s)))
  have hco : 0 ≤ dstP p s → AC Try.prog 116 [pz p, sFw (XA p).st (XA p).dp (sorts (XA p).st) (XS p).isSome] Hp.emp (fun _ => false) (retI 20 ((XA p).cnt (lsP p).length ((XA p).st.length - 1))) := fun h => by
    obtain ⟨h1, h2, h3⟩ := dstP_st h
    rw [h1]
    exact specCountOptimal_ok p h1 20
  have hni : 0 ≤ dstP p s → AC Try.prog 103 [slA (XA p).st (sorts (XA p).st), ints s] Hp.emp (fun _ => false) (retV (.v (.int .i64 ((((XA p).st.idxOf s : Nat) : Int))))) := fun h => by
    obtain ⟨h1, h2, h3⟩ := dstP_st h
    have e : sidx (XA p).st s = (((XA p).st.idxOf s : Nat) : Int) := if_pos h3
    rw [← e]
    exact idxP_ok h1 h2.len
  have hlt : 0 ≤ dstP p s → (XA p).st.idxOf s < ((XA p).cnt (lsP p).length ((XA p).st.length - 1)).length ∧ ((XA p).cnt (lsP p).length ((XA p).st.length - 1)).getD ((XA p).st.idxOf s) 0 = ((XA p).cnt (lsP p).length ((XA p).st.idxOf s)).getD ((XA p).st.idxOf s) 0 := fun h => by
    have h1 := List.idxOf_lt_length_iff.2 (dstP_st h).2.2
    exact ⟨by rw [Bf.cnt_length]; omega, Bf.cnt_get _ _ (by omega) (Nat.le_refl _)⟩
  unfold sFw at hac hsc hco
  refine ac_of_awp (N := ⟨_, fun _ => false, fun _ _ => rfl⟩) Try.func64 rfl (by kernel_rfl) Try.ntmps64 (by simp) ?_
  simp only [argsFr, List.zipIdx_cons, List.zipIdx_nil, go_sem]
  repeat' (first | (refine ob4 rfl rfl rfl rfl ?_) | (refine Ob.mk (by have := hlt (by assumption); omega) ?_) | refine awp_seqK fun K hK => ?_ | (refine awp_regionK 134349239 rfl ?_; simp only [List.map_cons, List.map_nil]; simp (maxSteps := 1000000) (dsimp := false) (implicitDefEqProofs := false) (disch := omega) only [wrap64, go_sem]) | (refine awp_regionQK 134349239 (by kernel_rfl) (by kernel_rfl) (by kernel_rfl) ?_; simp only [List.map_cons, List.map_nil]; simp (maxSteps := 1000000) (dsimp := false) (implicitDefEqProofs := false) (disch := omega) only [wrap64, go_sem]) | refine awp_block ?_ | (refine awp_skip ?_; simp only [go_sem]) | (refine awp_exit ?_; simp only [go_sem]) | (refine awp_ret ?_; try simp only [go_sem]) | (refine awp_condP rfl ?_; try simp only [go_sem]) | (refine BrP.mk (fun h => ?_) (fun h => ?_) <;> try simp (dsimp := false) (disch := omega) only [wrap64]) | (refine Br.mk (fun h => ?_) (fun h => ?_) <;> try simp (dsimp := false) (disch := omega) only [wrap64]) | refine Ob.mk (by first | omega | (intro _ _; rfl) | trivial | (intros; trivial) | assumption | (intro i hi; have h0 : i = 0 := (by omega); subst h0; first | rfl | trivial) | (intro i hi; have h0 : i = 0 ∨ i = 1 := (by omega); rcases h0 with rfl | rfl <;> rfl) | (intro i hi; have h0 : i = 0 ∨ i = 1 ∨ i = 2 := (by omega); rcases h0 with rfl | rfl | rfl <;> rfl)) ?_ | ((first | (refine cR (hac := hac) (hK := ?_) (hs := hsc)) | (refine cFI (hac := hco (by assumption)) (hK := ?_)) | (refine cQI (hac := hco (by assumption)) (hK := ?_)) | ((first | refine atF (f := 103) ?_ | refine atQ (f := 103) ?_); (first | refine cV (hfit := .cons (fits_slF rfl rfl) (.cons (.refl _) .nil)) (hac := hni (by assumption)) (hK := ?_) | refine cQV (hfit := .cons (fits_slF rfl rfl) (.cons (.refl _) .nil)) (hac := hni (by assumption)) (hK := ?_)))); simp (maxSteps := 1000000) (dsimp := false) (implicitDefEqProofs := false) (disch := omega) only [wrap64, go_sem]) | apply_assumption -exfalso -symm)
  all_goals (first | (show endQ _ _ _ _ _ _ _; (repeat (rename (∀ (A : Fr) (H : Hp), AWP _ _ _ _ A H → _) => hK; clear hK)); (repeat (rename (Fr → Hp → Prop) => K; clear K))) | (show Exists _; (repeat (rename (∀ (A : Fr) (H : Hp), AWP _ _ _ _ A H → _) => hK; clear hK)); (repeat (rename (Fr → Hp → Prop) => K; clear K))) | skip)
  · have hl := (hlt (by assumption)).2
    refine end_retN rfl rfl (if_neg fun k => ?_).symm
    rename_i h
    rw [hl] at h
    exact k.2 h
  · have hl := (hlt (by assumption)).2
    refine end_retN rfl rfl ?_
    rename_i h
    rw [hl] at h ⊢
    exact (if_pos ⟨by assumption, h⟩).symm
  · exact end_retN rfl rfl (if_neg fun k => absurd k.1 (by assumption)).symm
end Go.Proofs.Ytdllbnchcjgcdaa
