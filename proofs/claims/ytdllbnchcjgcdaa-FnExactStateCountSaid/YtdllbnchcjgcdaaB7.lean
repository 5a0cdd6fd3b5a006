import Derived.Test.YtdllbnchcjgcdaaB6
import Derived.Test.YtdllbnchcjgcdaaB3
/- The reference extends a chain. -/
section
namespace Go.Proofs.Ytdllbnchcjgcdaa
open Go.Av
set_option linter.unusedSimpArgs false
set_option linter.unusedVariables false
attribute [local irreducible] AWP CallG Ob Br BrP Go.Av.Sub endQ AOps OpV AC thenA blkA opsVC opVC withA withArgs opsQ opQ CallQ withA2 withArgs2
open Go.Pm (Pm comp invp idn img Ch fixB Spc Run Gen)

theorem specProd_step (n : Nat) (hn : n ≤ 20) (l : Nat) (hl : l < n) (ihG : ∀ (C : Ch) (p : List Int), C.WF n → C.Full n (l + 1) → C.Ind n → Pm n p → fixB (l + 1) p → AC Try.prog 167 [.ref 1000000 0, .v (.int .i64 ((l : Int) + 1)), ints p] (chH (kS n) n C) (pnC (l + 1)) (postC (kS n) n (Ch.Add n (l + 1) C p)))
    (M : Nat) (ih : ∀ (C : Ch) (x : List Int), n - C.cnt n l < M → Spc n l C → Pm n x → fixB l x → Gen n (C.S l) x → AC Try.prog 179 [.ref 1000000 0, .v (.int .i64 (l)), ints x] (chH (kS n) n C) (pnC (l + 1)) (postC (kS n) n (fun C' => Run n l C C' ∧ C'.has (n - l) l x = true)))
    (C : Ch) (x : List Int) (hM : n - C.cnt n l < M + 1) (hs : Spc n l C) (hx : Pm n x) (hf : fixB l x) (hg : Gen n (C.S l) x) : AC Try.prog 179 [.ref 1000000 0, .v (.int .i64 (l)), ints x] (chH (kS n) n C) (pnC (l + 1)) (postC (kS n) n (fun C' => Run n l C C' ∧ C'.has (n - l) l x = true)) := by
  have hok : okF n (kS n) := .inr rfl
  have hxl := hx.1
  have hxb : 0 ≤ x.getD l 0 ∧ x.getD l 0 < n := hx.2.1 l hl
  have hsh := (Ch.Ind.short hs.wf hs.ind hn hl : (C.S l).length ≤ 86)
  have hs' : Hold (Spc n l C) := ⟨hs⟩
  cases hT : C.T l (img x l) with
  | some t =>
    have hTF : tF (C.T l) (x.getD l 0).toNat = .list false 1 t.length (cM iv 0 t) := tF_some hT
    obtain ⟨t1, t2, t3⟩ := hs.wf.t1 l _ t hl hT
    have htl := t1.1
    obtain ⟨q1, q2, q3⟩ := hs.quo hl hx hf hg hT
    have hac := ihG C (comp x (invp t)) hs.wf hs.full hs.ind q1 q2
    clear hs
    refine ac_of_awp (N := ⟨_, pnC (l + 1), fun h hh => pnC_low (Nat.lt_of_lt_of_le hh (by decide))⟩) Try.func179 rfl (by kernel_rfl) Try.ntmps179 (by simp) ?_
    simp only [argsFr, List.zipIdx_cons, List.zipIdx_nil, go_sem]
    refine add_awp ?_
    repeat' (first | refine awp_seqK fun K hK => ?_ | (refine awp_regionK 18014398517870791 rfl ?_; simp only [List.map_cons, List.map_nil]; simp (maxSteps := 1000000) (dsimp := false) (implicitDefEqProofs := false) (disch := omega) only [wrap64, go_sem, chA_c, chA_g, chA_t, gnF_app, tnF_app, chA_gs, chA_ts, kS0, kS1, kS2, sl0, sl1, sl2, sn0, sn1, sn2, chA_low, chA_upd, chA_scrub, sub_lowb, sub_lowe, pX_low, pX_ts, pX_gs, hTF]) | (refine awp_regionQK 18014398517870791 (by kernel_rfl) (by kernel_rfl) (by kernel_rfl) ?_; simp only [List.map_cons, List.map_nil]; simp (maxSteps := 1000000) (dsimp := false) (implicitDefEqProofs := false) (disch := omega) only [wrap64, go_sem, chA_c, chA_g, chA_t, gnF_app, tnF_app, chA_gs, chA_ts, kS0, kS1, kS2, sl0, sl1, sl2, sn0, sn1, sn2, chA_low, chA_upd, chA_scrub, sub_lowb, sub_lowe, pX_low, pX_ts, pX_gs, hTF]) | refine awp_block ?_ | (refine awp_skip ?_; simp only [go_sem, chA_c, chA_g, chA_t, gnF_app, tnF_app, chA_gs, chA_ts, kS0, kS1, kS2, sl0, sl1, sl2, sn0, sn1, sn2, chA_low, chA_upd, chA_scrub, sub_lowb, sub_lowe, pX_low, pX_ts, pX_gs, hTF]) | (refine awp_exit ?_; simp only [go_sem, chA_c, chA_g, chA_t, gnF_app, tnF_app, chA_gs, chA_ts, kS0, kS1, kS2, sl0, sl1, sl2, sn0, sn1, sn2, chA_low, chA_upd, chA_scrub, sub_lowb, sub_lowe, pX_low, pX_ts, pX_gs, hTF]) | (refine awp_ret ?_; try simp only [go_sem, chA_c, chA_g, chA_t, gnF_app, tnF_app, chA_gs, chA_ts, kS0, kS1, kS2, sl0, sl1, sl2, sn0, sn1, sn2, chA_low, chA_upd, chA_scrub, sub_lowb, sub_lowe, pX_low, pX_ts, pX_gs, hTF]) | (refine awp_condP rfl ?_; try simp only [go_sem, chA_c, chA_g, chA_t, gnF_app, tnF_app, chA_gs, chA_ts, kS0, kS1, kS2, sl0, sl1, sl2, sn0, sn1, sn2, chA_low, chA_upd, chA_scrub, sub_lowb, sub_lowe, pX_low, pX_ts, pX_gs, hTF]) | (refine BrP.mk (fun h => ?_) (fun h => ?_) <;> try simp (dsimp := false) (disch := omega) only [wrap64]) | (refine Br.mk (fun h => ?_) (fun h => ?_) <;> try simp (dsimp := false) (disch := omega) only [wrap64]) | refine Ob.mk (by first | omega | (intro _ _; rfl) | trivial | (intros; trivial) | assumption | (intro i hi; have h0 : i = 0 := (by omega); subst h0; first | rfl | trivial) | (intro i hi; have h0 : i = 0 ∨ i = 1 := (by omega); rcases h0 with rfl | rfl <;> rfl) | (intro i hi; have h0 : i = 0 ∨ i = 1 ∨ i = 2 := (by omega); rcases h0 with rfl | rfl | rfl <;> rfl)) ?_ | ((first | ((first | refine atF (f := 174) ?_ | refine atQ (f := 174) ?_); (first | (refine cFI (hac := specInverse_ok t (by omega) (by rw [htl]; exact t1) 9) (hK := ?_)) | (refine cQI (hac := specInverse_ok t (by omega) (by rw [htl]; exact t1) 9) (hK := ?_)))) | ((first | refine atF (f := 176) ?_ | refine atQ (f := 176) ?_); (first | (refine cFI (hac := specCompose_ok x (invp t) (by omega) (pm_lt hx t1.inv) 9) (hK := ?_)) | (refine cQI (hac := specCompose_ok x (invp t) (by omega) (pm_lt hx t1.inv) 9) (hK := ?_)))) | ((first | refine atF (f := 167) ?_ | refine atQ (f := 167) ?_); refine callCh (R := Hp.emp) hac hok hn rfl rfl (fun h hh => pnC_pX (Nat.le_refl _) hh) (fun C5 hA5 => ?_))); simp (maxSteps := 1000000) (dsimp := false) (implicitDefEqProofs := false) (disch := omega) only [wrap64, go_sem, chA_c, chA_g, chA_t, gnF_app, tnF_app, chA_gs, chA_ts, kS0, kS1, kS2, sl0, sl1, sl2, sn0, sn1, sn2, chA_low, chA_upd, chA_scrub, sub_lowb, sub_lowe, pX_low, pX_ts, pX_gs, hTF]) | apply_assumption -exfalso -symm)
    all_goals (first | (show endQ _ _ _ _ _ _ _; (repeat (rename (∀ (A : Fr) (H : Hp), AWP _ _ _ _ A H → _) => hK; clear hK)); (repeat (rename (Fr → Hp → Prop) => K; clear K))) | (show Exists _; (repeat (rename (∀ (A : Fr) (H : Hp), AWP _ _ _ _ A H → _) => hK; clear hK)); (repeat (rename (Fr → Hp → Prop) => K; clear K))) | skip)
    · obtain ⟨r1, r2⟩ := Run.up hs'.h hl hT q3 hA5
      exact end_Ch rfl ⟨r1, r2⟩ (le_add _ _)
    · omega
  | none =>
    have hTF : tF (C.T l) (x.getD l 0).toNat = .v (.slice none 0 0) := tF_none hT
    obtain ⟨C1, hC1⟩ : ∃ C1, C1 = C.setT l (img x l) x := ⟨_, rfl⟩
    have hs1 : Hold (Spc n l C1) := ⟨by rw [hC1]; exact hs.set hl hx hf hg hT⟩
    have hcn : C1.cnt n l = C.cnt n l + 1 := by rw [hC1]; exact Ch.cnt_setT (hx.img_lt hl) hT
    have hcl : C1.cnt n l ≤ n := Ch.cnt_le_n
    have hgp : ∀ g, g ∈ C.S l → Pm n g ∧ fixB l g := fun g hg => hs.wf.s1 l g hg
    have hgm : ∀ m, m < (C.S l).length → (C.S l).getD m [] ∈ C.S l := fun m hm => by
      rw [List.getD_eq_getElem?_getD, List.getElem?_eq_getElem hm]; exact List.getElem_mem _
    have hprod : ∀ m, m < (C.S l).length → Pm n (comp x ((C.S l).getD m [])) ∧ fixB l (comp x ((C.S l).getD m [])) ∧ Gen n (C.S l) (comp x ((C.S l).getD m [])) := fun m hm =>
      ⟨hx.comp (hgp _ (hgm m hm)).1, fixB.comp hx (by omega) hf (hgp _ (hgm m hm)).2, Gen.mul hg (hgm m hm)⟩
    clear hs
    refine ac_of_awp (N := ⟨_, pnC (l + 1), fun h hh => pnC_low (Nat.lt_of_lt_of_le hh (by decide))⟩) Try.func179 rfl (by kernel_rfl) Try.ntmps179 (by simp) ?_
    simp only [argsFr, List.zipIdx_cons, List.zipIdx_nil, go_sem]
    refine add_awp ?_
    repeat' (first | (refine setT_awp hn hl ?_; rw [show C.setT l (x.getD l 0).toNat x = C1 from hC1.symm]) | (refine awp_regionEK 18014398517870791 13 (by kernel_rfl) (by kernel_rfl) (by kernel_rfl) ?_; simp only [List.map_cons, List.map_nil, opsE, List.take_succ_cons, List.take_zero, List.drop_succ_cons, List.drop_zero]; simp (maxSteps := 1000000) (dsimp := false) (implicitDefEqProofs := false) (disch := omega) only [wrap64, go_sem, chA_c, chA_g, chA_t, gnF_app, tnF_app, chA_gs, chA_ts, kS0, kS1, kS2, sl0, sl1, sl2, sn0, sn1, sn2, chA_low, chA_upd, chA_scrub, sub_lowb, sub_lowe, pX_low, pX_ts, pX_gs, hTF]) | refine awp_seqK fun K hK => ?_ | (refine awp_regionK 18014398517870791 rfl ?_; simp only [List.map_cons, List.map_nil]; simp (maxSteps := 1000000) (dsimp := false) (implicitDefEqProofs := false) (disch := omega) only [wrap64, go_sem, chA_c, chA_g, chA_t, gnF_app, tnF_app, chA_gs, chA_ts, kS0, kS1, kS2, sl0, sl1, sl2, sn0, sn1, sn2, chA_low, chA_upd, chA_scrub, sub_lowb, sub_lowe, pX_low, pX_ts, pX_gs, hTF]) | (refine awp_regionQK 18014398517870791 (by kernel_rfl) (by kernel_rfl) (by kernel_rfl) ?_; simp only [List.map_cons, List.map_nil]; simp (maxSteps := 1000000) (dsimp := false) (implicitDefEqProofs := false) (disch := omega) only [wrap64, go_sem, chA_c, chA_g, chA_t, gnF_app, tnF_app, chA_gs, chA_ts, kS0, kS1, kS2, sl0, sl1, sl2, sn0, sn1, sn2, chA_low, chA_upd, chA_scrub, sub_lowb, sub_lowe, pX_low, pX_ts, pX_gs, hTF]) | refine awp_block ?_ | (refine awp_skip ?_; simp only [go_sem, chA_c, chA_g, chA_t, gnF_app, tnF_app, chA_gs, chA_ts, kS0, kS1, kS2, sl0, sl1, sl2, sn0, sn1, sn2, chA_low, chA_upd, chA_scrub, sub_lowb, sub_lowe, pX_low, pX_ts, pX_gs, hTF]) | (refine awp_exit ?_; simp only [go_sem, chA_c, chA_g, chA_t, gnF_app, tnF_app, chA_gs, chA_ts, kS0, kS1, kS2, sl0, sl1, sl2, sn0, sn1, sn2, chA_low, chA_upd, chA_scrub, sub_lowb, sub_lowe, pX_low, pX_ts, pX_gs, hTF]) | (refine awp_ret ?_; try simp only [go_sem, chA_c, chA_g, chA_t, gnF_app, tnF_app, chA_gs, chA_ts, kS0, kS1, kS2, sl0, sl1, sl2, sn0, sn1, sn2, chA_low, chA_upd, chA_scrub, sub_lowb, sub_lowe, pX_low, pX_ts, pX_gs, hTF]) | (refine awp_condP rfl ?_; try simp only [go_sem, chA_c, chA_g, chA_t, gnF_app, tnF_app, chA_gs, chA_ts, kS0, kS1, kS2, sl0, sl1, sl2, sn0, sn1, sn2, chA_low, chA_upd, chA_scrub, sub_lowb, sub_lowe, pX_low, pX_ts, pX_gs, hTF]) | (refine BrP.mk (fun h => ?_) (fun h => ?_) <;> try simp (dsimp := false) (disch := omega) only [wrap64]) | (refine Br.mk (fun h => ?_) (fun h => ?_) <;> try simp (dsimp := false) (disch := omega) only [wrap64]) | refine Ob.mk (by first | omega | (intro _ _; rfl) | trivial | (intros; trivial) | assumption | (intro i hi; have h0 : i = 0 := (by omega); subst h0; first | rfl | trivial) | (intro i hi; have h0 : i = 0 ∨ i = 1 := (by omega); rcases h0 with rfl | rfl <;> rfl) | (intro i hi; have h0 : i = 0 ∨ i = 1 ∨ i = 2 := (by omega); rcases h0 with rfl | rfl | rfl <;> rfl)) ?_ | apply_assumption -exfalso -symm)
    all_goals (first | (show endQ _ _ _ _ _ _ _; (repeat (rename (∀ (A : Fr) (H : Hp), AWP _ _ _ _ A H → _) => hK; clear hK)); (repeat (rename (Fr → Hp → Prop) => K; clear K))) | (show Exists _; (repeat (rename (∀ (A : Fr) (H : Hp), AWP _ _ _ _ A H → _) => hK; clear hK)); (repeat (rename (Fr → Hp → Prop) => K; clear K))) | skip)
    · exfalso; omega
    refine awp_loop (ι := Ch × Nat) (fun z => [(7, .v (.int .i64 (z.2))), (0, .ref 1000000 0), (1, .v (.int .i64 (l))), (2, .list false 1 (x).length (cM iv 0 (x)))]) (fun z => (chH (kS n) n z.1).add Hp.emp)
      (fun z => z.2 ≤ (C.S l).length ∧ Run n l C1 z.1 ∧ ∀ j, j < z.2 → z.1.has (n - l) l (comp x ((C.S l).getD j [])) = true) (fun z => (C.S l).length - z.2) (C1, 0)
      ⟨Nat.zero_le _, Run.refl hs1.h, fun j hj => absurd hj (Nat.not_lt_zero j)⟩ (Sub.toL (by simp only [go_sem] <;> first | trivial | (simp only [Option.some.injEq, AV.v.injEq, AV.own.injEq, AV.list.injEq, Value.int.injEq, Value.bool.injEq, true_and, and_true]; first | omega | (simp; done)) | (simp; done) | (simp; omega)) (Hp.le_refl _)) ?_
    rintro ⟨C2, i⟩ ⟨hi, hr, hd⟩
    dsimp only at hi hr hd ⊢
    have hS2 : C2.S l = C.S l := by rw [hr.eS l (Nat.le_refl _), hC1]; rfl
    have hcm := hr.cnt
    have hgl : i < (C.S l).length → ((C.S l).getD i []).length = n := fun h => (hgp _ (hgm i h)).1.1
    have hr' : Hold (Run n l C1 C2) := ⟨hr⟩
    have hac : i < (C.S l).length → _ := fun h => ih C2 (comp x ((C.S l).getD i [])) (by omega) hr.ok (hprod i h).1 (hprod i h).2.1 (by rw [hS2]; exact (hprod i h).2.2)
    clear hr
    repeat' (first | refine awp_seqK fun K hK => ?_ | (refine awp_regionK 18014398517870791 rfl ?_; simp only [List.map_cons, List.map_nil]; simp (maxSteps := 1000000) (dsimp := false) (implicitDefEqProofs := false) (disch := omega) only [wrap64, go_sem, chA_c, chA_g, chA_t, gnF_app, tnF_app, chA_gs, chA_ts, kS0, kS1, kS2, sl0, sl1, sl2, sn0, sn1, sn2, chA_low, chA_upd, chA_scrub, sub_lowb, sub_lowe, pX_low, pX_ts, pX_gs, hS2]) | (refine awp_regionQK 18014398517870791 (by kernel_rfl) (by kernel_rfl) (by kernel_rfl) ?_; simp only [List.map_cons, List.map_nil]; simp (maxSteps := 1000000) (dsimp := false) (implicitDefEqProofs := false) (disch := omega) only [wrap64, go_sem, chA_c, chA_g, chA_t, gnF_app, tnF_app, chA_gs, chA_ts, kS0, kS1, kS2, sl0, sl1, sl2, sn0, sn1, sn2, chA_low, chA_upd, chA_scrub, sub_lowb, sub_lowe, pX_low, pX_ts, pX_gs, hS2]) | refine awp_block ?_ | (refine awp_skip ?_; simp only [go_sem, chA_c, chA_g, chA_t, gnF_app, tnF_app, chA_gs, chA_ts, kS0, kS1, kS2, sl0, sl1, sl2, sn0, sn1, sn2, chA_low, chA_upd, chA_scrub, sub_lowb, sub_lowe, pX_low, pX_ts, pX_gs, hS2]) | (refine awp_exit ?_; simp only [go_sem, chA_c, chA_g, chA_t, gnF_app, tnF_app, chA_gs, chA_ts, kS0, kS1, kS2, sl0, sl1, sl2, sn0, sn1, sn2, chA_low, chA_upd, chA_scrub, sub_lowb, sub_lowe, pX_low, pX_ts, pX_gs, hS2]) | (refine awp_ret ?_; try simp only [go_sem, chA_c, chA_g, chA_t, gnF_app, tnF_app, chA_gs, chA_ts, kS0, kS1, kS2, sl0, sl1, sl2, sn0, sn1, sn2, chA_low, chA_upd, chA_scrub, sub_lowb, sub_lowe, pX_low, pX_ts, pX_gs, hS2]) | (refine awp_condP rfl ?_; try simp only [go_sem, chA_c, chA_g, chA_t, gnF_app, tnF_app, chA_gs, chA_ts, kS0, kS1, kS2, sl0, sl1, sl2, sn0, sn1, sn2, chA_low, chA_upd, chA_scrub, sub_lowb, sub_lowe, pX_low, pX_ts, pX_gs, hS2]) | (refine BrP.mk (fun h => ?_) (fun h => ?_) <;> try simp (dsimp := false) (disch := omega) only [wrap64]) | (refine Br.mk (fun h => ?_) (fun h => ?_) <;> try simp (dsimp := false) (disch := omega) only [wrap64]) | refine Ob.mk (by first | omega | (intro _ _; rfl) | trivial | (intros; trivial) | assumption | (intro i hi; have h0 : i = 0 := (by omega); subst h0; first | rfl | trivial) | (intro i hi; have h0 : i = 0 ∨ i = 1 := (by omega); rcases h0 with rfl | rfl <;> rfl) | (intro i hi; have h0 : i = 0 ∨ i = 1 ∨ i = 2 := (by omega); rcases h0 with rfl | rfl | rfl <;> rfl)) ?_ | ((first | ((first | refine atF (f := 176) ?_ | refine atQ (f := 176) ?_); (first | (refine cFI (hac := specCompose_ok x ((C.S l).getD i []) (by omega) (pm_lt hx (hgp _ (hgm i (by omega))).1) 9) (hK := ?_)) | (refine cQI (hac := specCompose_ok x ((C.S l).getD i []) (by omega) (pm_lt hx (hgp _ (hgm i (by omega))).1) 9) (hK := ?_)))) | ((first | refine atF (f := 179) ?_ | refine atQ (f := 179) ?_); refine callCh (R := Hp.emp) (hac (by omega)) hok hn rfl rfl (fun h hh => pnC_pX (Nat.le_refl _) hh) (fun C5 hA5 => ?_))); simp (maxSteps := 1000000) (dsimp := false) (implicitDefEqProofs := false) (disch := omega) only [wrap64, go_sem, chA_c, chA_g, chA_t, gnF_app, tnF_app, chA_gs, chA_ts, kS0, kS1, kS2, sl0, sl1, sl2, sn0, sn1, sn2, chA_low, chA_upd, chA_scrub, sub_lowb, sub_lowe, pX_low, pX_ts, pX_gs, hS2]) | apply_assumption -exfalso -symm)
    all_goals (first | (show endQ _ _ _ _ _ _ _; (repeat (rename (∀ (A : Fr) (H : Hp), AWP _ _ _ _ A H → _) => hK; clear hK)); (repeat (rename (Fr → Hp → Prop) => K; clear K))) | (show Exists _; (repeat (rename (∀ (A : Fr) (H : Hp), AWP _ _ _ _ A H → _) => hK; clear hK)); (repeat (rename (Fr → Hp → Prop) => K; clear K))) | skip)
    · obtain ⟨r1, r2⟩ := hA5
      refine ⟨(C5, i + 1), ⟨by dsimp only; omega, hr'.h.trans r1 hl, fun j hj => ?_⟩, by dsimp only; omega, Sub.toL (by simp only [go_sem] <;> first | trivial | (simp only [Option.some.injEq, AV.v.injEq, AV.own.injEq, AV.list.injEq, Value.int.injEq, Value.bool.injEq, true_and, and_true]; first | omega | (simp; done)) | (simp; done) | (simp; omega)) (Hp.le_refl _)⟩
      dsimp only at hj ⊢
      by_cases e : j = i
      · subst e; exact r2
      · have hp := hprod j (by omega)
        exact r1.keep hr'.h.ok hl hp.1 hp.2.1 (hd j (by omega))
    · have e : i = (C.S l).length := by omega
      have hall : ∀ g, g ∈ C.S l → C2.has (n - l) l (comp x g) = true := fun g hg => by
        obtain ⟨j, hj, rfl⟩ := List.mem_iff_getElem.1 hg
        have := hd j (by omega)
        rwa [List.getD_eq_getElem?_getD, List.getElem?_eq_getElem hj] at this
      obtain ⟨r1, r2⟩ := Run.set hs'.h hl hx hf hT (hC1 ▸ hr'.h) hall
      exact end_Ch' rfl ⟨r1, r2⟩ (le_add _ _)

theorem specProd_ok (n : Nat) (hn : n ≤ 20) (l : Nat) (hl : l < n) (ihG : ∀ (C : Ch) (p : List Int), C.WF n → C.Full n (l + 1) → C.Ind n → Pm n p → fixB (l + 1) p → AC Try.prog 167 [.ref 1000000 0, .v (.int .i64 ((l : Int) + 1)), ints p] (chH (kS n) n C) (pnC (l + 1)) (postC (kS n) n (Ch.Add n (l + 1) C p))) : ∀ (M : Nat) (C : Ch) (x : List Int), n - C.cnt n l < M → Spc n l C → Pm n x → fixB l x → Gen n (C.S l) x → AC Try.prog 179 [.ref 1000000 0, .v (.int .i64 (l)), ints x] (chH (kS n) n C) (pnC (l + 1)) (postC (kS n) n (fun C' => Run n l C C' ∧ C'.has (n - l) l x = true))
  | 0, C, x, hM, _, _, _, _ => by omega
  | M + 1, C, x, hM, h1, h2, h3, h4 => specProd_step n hn l hl ihG M (specProd_ok n hn l hl ihG M) C x hM h1 h2 h3 h4

/-- The representatives of the points below m. -/
def knl (T : Nat → Option (List Int)) (m : Nat) : List (List Int) := ((List.range m).filter fun y => (T y).isSome).map fun y : Nat => (T y).getD []
theorem knl_succ (T : Nat → Option (List Int)) (m : Nat) : knl T (m + 1) = knl T m ++ (match T m with | none => [] | some t => [t]) := by
  unfold knl
  rw [List.range_succ, List.filter_append, List.map_append]
  congr 1
  cases h : T m <;> simp [h]
theorem knl_length (T : Nat → Option (List Int)) (m : Nat) : (knl T m).length ≤ m := by
  unfold knl
  rw [List.length_map]
  exact Nat.le_trans (List.length_filter_le _ _) (by simp)
theorem knl_mem {T : Nat → Option (List Int)} {m : Nat} {t : List Int} : t ∈ knl T m ↔ ∃ y : Nat, y < m ∧ T y = some t := by
  unfold knl
  simp only [List.mem_map, List.mem_filter, List.mem_range]
  constructor
  · rintro ⟨y, ⟨h1, h2⟩, h3⟩
    obtain ⟨u, hu⟩ := Option.isSome_iff_exists.1 h2
    rw [hu] at h3; simp only [Option.getD_some] at h3; subst h3
    exact ⟨y, h1, hu⟩
  · rintro ⟨y, h1, h2⟩; exact ⟨y, ⟨h1, by rw [h2]; rfl⟩, by rw [h2]; rfl⟩

theorem dv_solid (x : Value) : (AV.tup 2 (vecF [.dead, .v x])).solid := by
  intro i hi
  have h0 : i = 0 ∨ i = 1 := by omega
  rcases h0 with rfl | rfl <;> trivial
theorem dv_scrub (x : Value) (p : Nat → Bool) : (AV.tup 2 (vecF [.dead, .v x])).scrub p = .tup 2 (vecF [.dead, .v x]) := by
  simp only [AV.scrub]
  congr 1
  funext i
  match i with
  | 0 => rfl
  | 1 => rfl
  | i + 2 => rfl
theorem specGen_step (n : Nat) (hn : n ≤ 20) (l : Nat) (C : Ch) (p : List Int) (hl : l < n) (hw : C.WF n) (hF : C.Full n l) (hI : C.Ind n) (hp : Pm n p) (hf : fixB l p)
    (ihP : ∀ (C : Ch) (x : List Int), Spc n l C → Pm n x → fixB l x → Gen n (C.S l) x → AC Try.prog 179 [.ref 1000000 0, .v (.int .i64 (l)), ints x] (chH (kS n) n C) (pnC (l + 1)) (postC (kS n) n (fun C' => Run n l C C' ∧ C'.has (n - l) l x = true))) :
    AC Try.prog 167 [.ref 1000000 0, .v (.int .i64 (l)), ints p] (chH (kS n) n C) (pnC l) (postC (kS n) n (Ch.Add n l C p)) := by
  have hok : okF n (kS n) := .inr rfl
  have hpc : pnC l (sub 1000001 l) = false := pnC_gs (by omega) (Nat.le_refl _)
  have hsh := (Ch.Ind.short hw hI hn hl : (C.S l).length ≤ 86)
  have hsc : scF (fun x => x == sub 1000001 l) (kS n) = kS n := okF_scrub hok _ (sl1 _ _) (sl2 _ _)
  have hI' : Hold (C.Ind n) := ⟨hI⟩
  clear hI
  obtain ⟨hv1, hv2⟩ := sif_has C (n - l) l p
  rw [show l + (n - l) = n by omega] at hv1 hv2
  obtain ⟨C1, hC1⟩ : ∃ C1, C1 = C.addS l p := ⟨_, rfl⟩
  refine ac_of_awp (N := ⟨_, pnC (l), fun h hh => pnC_low (Nat.lt_of_lt_of_le hh (by decide))⟩) Try.func167 rfl (by kernel_rfl) Try.ntmps167 (by simp) ?_
  simp only [argsFr, List.zipIdx_cons, List.zipIdx_nil, go_sem]
  repeat' (first | (refine setS_awp hok hn hl ?_; rw [← hC1]) | (refine awp_regionPK 9671480348396928400164743 5 14 (by kernel_rfl) (by kernel_rfl) (by kernel_rfl) ?_; simp only [List.map_cons, List.map_nil, opsP, List.take_succ_cons, List.take_zero, List.drop_succ_cons, List.drop_zero]; simp (maxSteps := 1000000) (dsimp := false) (implicitDefEqProofs := false) (disch := omega) only [wrap64, go_sem, chH_c, chH_g, chH_t, chH_gs, chH_ts, hpc, hs_c, hs_g, hsc, chA_c, chA_g, chA_t, gnF_app, tnF_app, chA_gs, chA_ts, kS0, kS1, kS2, sl0, sl1, sl2, sn0, sn1, sn2, chA_low, chA_upd, chA_scrub, sub_lowb, sub_lowe, pX_low, pX_ts, pX_gs]) | refine awp_seqK fun K hK => ?_ | (refine awp_regionK 9671480348396928400164743 rfl ?_; simp only [List.map_cons, List.map_nil]; simp (maxSteps := 1000000) (dsimp := false) (implicitDefEqProofs := false) (disch := omega) only [wrap64, go_sem, chH_c, chH_g, chH_t, chH_gs, chH_ts, hpc, hs_c, hs_g, hsc, chA_c, chA_g, chA_t, gnF_app, tnF_app, chA_gs, chA_ts, kS0, kS1, kS2, sl0, sl1, sl2, sn0, sn1, sn2, chA_low, chA_upd, chA_scrub, sub_lowb, sub_lowe, pX_low, pX_ts, pX_gs]) | (refine awp_regionQK 9671480348396928400164743 (by kernel_rfl) (by kernel_rfl) (by kernel_rfl) ?_; simp only [List.map_cons, List.map_nil]; simp (maxSteps := 1000000) (dsimp := false) (implicitDefEqProofs := false) (disch := omega) only [wrap64, go_sem, chH_c, chH_g, chH_t, chH_gs, chH_ts, hpc, hs_c, hs_g, hsc, chA_c, chA_g, chA_t, gnF_app, tnF_app, chA_gs, chA_ts, kS0, kS1, kS2, sl0, sl1, sl2, sn0, sn1, sn2, chA_low, chA_upd, chA_scrub, sub_lowb, sub_lowe, pX_low, pX_ts, pX_gs]) | refine awp_block ?_ | (refine awp_skip ?_; simp only [go_sem, chH_c, chH_g, chH_t, chH_gs, chH_ts, hpc, hs_c, hs_g, hsc, chA_c, chA_g, chA_t, gnF_app, tnF_app, chA_gs, chA_ts, kS0, kS1, kS2, sl0, sl1, sl2, sn0, sn1, sn2, chA_low, chA_upd, chA_scrub, sub_lowb, sub_lowe, pX_low, pX_ts, pX_gs]) | (refine awp_exit ?_; simp only [go_sem, chH_c, chH_g, chH_t, chH_gs, chH_ts, hpc, hs_c, hs_g, hsc, chA_c, chA_g, chA_t, gnF_app, tnF_app, chA_gs, chA_ts, kS0, kS1, kS2, sl0, sl1, sl2, sn0, sn1, sn2, chA_low, chA_upd, chA_scrub, sub_lowb, sub_lowe, pX_low, pX_ts, pX_gs]) | (refine awp_ret ?_; try simp only [go_sem, chH_c, chH_g, chH_t, chH_gs, chH_ts, hpc, hs_c, hs_g, hsc, chA_c, chA_g, chA_t, gnF_app, tnF_app, chA_gs, chA_ts, kS0, kS1, kS2, sl0, sl1, sl2, sn0, sn1, sn2, chA_low, chA_upd, chA_scrub, sub_lowb, sub_lowe, pX_low, pX_ts, pX_gs]) | (refine awp_condP rfl ?_; try simp only [go_sem, chH_c, chH_g, chH_t, chH_gs, chH_ts, hpc, hs_c, hs_g, hsc, chA_c, chA_g, chA_t, gnF_app, tnF_app, chA_gs, chA_ts, kS0, kS1, kS2, sl0, sl1, sl2, sn0, sn1, sn2, chA_low, chA_upd, chA_scrub, sub_lowb, sub_lowe, pX_low, pX_ts, pX_gs]) | (refine BrP.mk (fun h => ?_) (fun h => ?_) <;> try simp (dsimp := false) (disch := omega) only [wrap64]) | (refine Br.mk (fun h => ?_) (fun h => ?_) <;> try simp (dsimp := false) (disch := omega) only [wrap64]) | refine Ob.mk (by first | omega | (intro _ _; rfl) | trivial | (intros; trivial) | assumption | (intro i hi; have h0 : i = 0 := (by omega); subst h0; first | rfl | trivial) | (intro i hi; have h0 : i = 0 ∨ i = 1 := (by omega); rcases h0 with rfl | rfl <;> rfl) | (intro i hi; have h0 : i = 0 ∨ i = 1 ∨ i = 2 := (by omega); rcases h0 with rfl | rfl | rfl <;> rfl)) ?_ | ((first | (refine cV (hfit := .cons (fits_chS (Hp.le_refl _) hn (fun _ => trivial)) (.refl _)) (hac := sift_ok n C l p hn (by omega) hw hp) (ha := dv_solid _) (hpl := dv_scrub _ _) (hK := ?_))); simp (maxSteps := 1000000) (dsimp := false) (implicitDefEqProofs := false) (disch := omega) only [wrap64, go_sem, chH_c, chH_g, chH_t, chH_gs, chH_ts, hpc, hs_c, hs_g, hsc, chA_c, chA_g, chA_t, gnF_app, tnF_app, chA_gs, chA_ts, kS0, kS1, kS2, sl0, sl1, sl2, sn0, sn1, sn2, chA_low, chA_upd, chA_scrub, sub_lowb, sub_lowe, pX_low, pX_ts, pX_gs]) | apply_assumption -exfalso -symm)
  all_goals (first | (show endQ _ _ _ _ _ _ _; (repeat (rename (∀ (A : Fr) (H : Hp), AWP _ _ _ _ A H → _) => hK; clear hK)); (repeat (rename (Fr → Hp → Prop) => K; clear K))) | (show Exists _; (repeat (rename (∀ (A : Fr) (H : Hp), AWP _ _ _ _ A H → _) => hK; clear hK)); (repeat (rename (Fr → Hp → Prop) => K; clear K))) | skip)
  · exfalso; omega
  · exact end_Ch rfl (Ch.Add.none hw hF (hv2.1 (by omega))) (Hp.le_refl _)
  have hs1 : Hold (Spc n l C1) := ⟨by
    rw [hC1]
    refine Spc.start hw hF hI'.h hl hp hf ?_
    cases e : C.has (n - l) l p with
    | false => rfl
    | true => have := hv2.2 e; omega⟩
  have hTC : C1.T l = C.T l := by rw [hC1]; rfl
  have hT1 : ∀ y t, C1.T l y = some t → Pm n t ∧ fixB l t := fun y t h => by rw [hTC] at h; exact ⟨(hw.t1 l y t hl h).1, (hw.t1 l y t hl h).2.1⟩
  refine awp_loop (ι := Nat) (fun y => [(9, .v (.int .i64 (y))), (8, .own 46 0 1 (knl (C1.T l) y).length), (0, .ref 1000000 0), (1, .v (.int .i64 (l))), (2, .list false 1 (p).length (cM iv 0 (p)))]) (fun y => (chH (kS n) n C1).add (Hp.emp.upd 46 (.cells (knl (C1.T l) y).length (cM ints [] (knl (C1.T l) y))))) (fun y => y ≤ n) (fun y => n - y) 0 (Nat.zero_le _)
    (Sub.trans (sub46 (d := 46) (g := cM ints [] []) (by decide) rfl (fun i hi => absurd hi (Nat.not_lt_zero i))) (Sub.toL (by simp only [go_sem] <;> first | trivial | (simp only [Option.some.injEq, AV.v.injEq, AV.own.injEq, AV.list.injEq, Value.int.injEq, Value.bool.injEq, true_and, and_true]; first | omega | (simp; done)) | (simp; done) | (simp; omega)) (add_le (Hp.le_upd rfl (Hp.le_emp _))))) ?_
  intro y hy
  have hkl := knl_length (C1.T l) y
  have hks := knl_succ (C1.T l) y
  cases hTy : C1.T l y with
  | some t =>
    have hTF : tF (C1.T l) y = .list false 1 t.length (cM iv 0 t) := tF_some hTy
    have htl := (hT1 y t hTy).1.1
    rw [hTy] at hks
    repeat' (first | refine awp_seqK fun K hK => ?_ | (refine awp_regionK 9671480348396928400164743 rfl ?_; simp only [List.map_cons, List.map_nil]; simp (maxSteps := 1000000) (dsimp := false) (implicitDefEqProofs := false) (disch := omega) only [wrap64, go_sem, chA_c, chA_g, chA_t, gnF_app, tnF_app, chA_gs, chA_ts, kS0, kS1, kS2, sl0, sl1, sl2, sn0, sn1, sn2, chA_low, chA_upd, chA_scrub, sub_lowb, sub_lowe, pX_low, pX_ts, pX_gs, hTF]) | (refine awp_regionQK 9671480348396928400164743 (by kernel_rfl) (by kernel_rfl) (by kernel_rfl) ?_; simp only [List.map_cons, List.map_nil]; simp (maxSteps := 1000000) (dsimp := false) (implicitDefEqProofs := false) (disch := omega) only [wrap64, go_sem, chA_c, chA_g, chA_t, gnF_app, tnF_app, chA_gs, chA_ts, kS0, kS1, kS2, sl0, sl1, sl2, sn0, sn1, sn2, chA_low, chA_upd, chA_scrub, sub_lowb, sub_lowe, pX_low, pX_ts, pX_gs, hTF]) | refine awp_block ?_ | (refine awp_skip ?_; simp only [go_sem, chA_c, chA_g, chA_t, gnF_app, tnF_app, chA_gs, chA_ts, kS0, kS1, kS2, sl0, sl1, sl2, sn0, sn1, sn2, chA_low, chA_upd, chA_scrub, sub_lowb, sub_lowe, pX_low, pX_ts, pX_gs, hTF]) | (refine awp_exit ?_; simp only [go_sem, chA_c, chA_g, chA_t, gnF_app, tnF_app, chA_gs, chA_ts, kS0, kS1, kS2, sl0, sl1, sl2, sn0, sn1, sn2, chA_low, chA_upd, chA_scrub, sub_lowb, sub_lowe, pX_low, pX_ts, pX_gs, hTF]) | (refine awp_ret ?_; try simp only [go_sem, chA_c, chA_g, chA_t, gnF_app, tnF_app, chA_gs, chA_ts, kS0, kS1, kS2, sl0, sl1, sl2, sn0, sn1, sn2, chA_low, chA_upd, chA_scrub, sub_lowb, sub_lowe, pX_low, pX_ts, pX_gs, hTF]) | (refine awp_condP rfl ?_; try simp only [go_sem, chA_c, chA_g, chA_t, gnF_app, tnF_app, chA_gs, chA_ts, kS0, kS1, kS2, sl0, sl1, sl2, sn0, sn1, sn2, chA_low, chA_upd, chA_scrub, sub_lowb, sub_lowe, pX_low, pX_ts, pX_gs, hTF]) | (refine BrP.mk (fun h => ?_) (fun h => ?_) <;> try simp (dsimp := false) (disch := omega) only [wrap64]) | (refine Br.mk (fun h => ?_) (fun h => ?_) <;> try simp (dsimp := false) (disch := omega) only [wrap64]) | refine Ob.mk (by first | omega | (intro _ _; rfl) | trivial | (intros; trivial) | assumption | (intro i hi; have h0 : i = 0 := (by omega); subst h0; first | rfl | trivial) | (intro i hi; have h0 : i = 0 ∨ i = 1 := (by omega); rcases h0 with rfl | rfl <;> rfl) | (intro i hi; have h0 : i = 0 ∨ i = 1 ∨ i = 2 := (by omega); rcases h0 with rfl | rfl | rfl <;> rfl)) ?_ | apply_assumption -exfalso -symm)
    all_goals (first | (show endQ _ _ _ _ _ _ _; (repeat (rename (∀ (A : Fr) (H : Hp), AWP _ _ _ _ A H → _) => hK; clear hK)); (repeat (rename (Fr → Hp → Prop) => K; clear K))) | (show Exists _; (repeat (rename (∀ (A : Fr) (H : Hp), AWP _ _ _ _ A H → _) => hK; clear hK)); (repeat (rename (Fr → Hp → Prop) => K; clear K))) | skip)
    · have e3 : knl (C1.T l) (y + 1) = knl (C1.T l) y ++ [t] := hks
      refine ⟨y + 1, by omega, by omega, Sub.trans (sub46 (d := 46) (g := cM ints [] (knl (C1.T l) (y + 1))) (by decide) rfl (e3 ▸ apF_rows rfl)) (Sub.toL ?_ (add_le (Hp.le_upd ?_ (Hp.le_emp _))))⟩
      · exact (by simp only [go_sem] <;> first | trivial | (simp only [Option.some.injEq, AV.v.injEq, AV.own.injEq, AV.list.injEq, Value.int.injEq, Value.bool.injEq, true_and, and_true]; first | omega | (simp [e3]; done)) | (simp [e3]; done) | (simp [e3]; omega))
      · rw [e3, List.length_append]; rfl
    · exfalso; omega
    · have := hs1.h.wf.t1 l y t hl hTy
      have h3 := this.1.img_lt hl
      rw [this.2.2] at h3
      exfalso; omega
  | none =>
    have hTF : tF (C1.T l) y = .v (.slice none 0 0) := tF_none hTy
    have e3 : knl (C1.T l) (y + 1) = knl (C1.T l) y := by rw [hks, hTy]; simp
    clear hks
    repeat' (first | refine awp_seqK fun K hK => ?_ | (refine awp_regionK 9671480348396928400164743 rfl ?_; simp only [List.map_cons, List.map_nil]; simp (maxSteps := 1000000) (dsimp := false) (implicitDefEqProofs := false) (disch := omega) only [wrap64, go_sem, chA_c, chA_g, chA_t, gnF_app, tnF_app, chA_gs, chA_ts, kS0, kS1, kS2, sl0, sl1, sl2, sn0, sn1, sn2, chA_low, chA_upd, chA_scrub, sub_lowb, sub_lowe, pX_low, pX_ts, pX_gs, hTF]) | (refine awp_regionQK 9671480348396928400164743 (by kernel_rfl) (by kernel_rfl) (by kernel_rfl) ?_; simp only [List.map_cons, List.map_nil]; simp (maxSteps := 1000000) (dsimp := false) (implicitDefEqProofs := false) (disch := omega) only [wrap64, go_sem, chA_c, chA_g, chA_t, gnF_app, tnF_app, chA_gs, chA_ts, kS0, kS1, kS2, sl0, sl1, sl2, sn0, sn1, sn2, chA_low, chA_upd, chA_scrub, sub_lowb, sub_lowe, pX_low, pX_ts, pX_gs, hTF]) | refine awp_block ?_ | (refine awp_skip ?_; simp only [go_sem, chA_c, chA_g, chA_t, gnF_app, tnF_app, chA_gs, chA_ts, kS0, kS1, kS2, sl0, sl1, sl2, sn0, sn1, sn2, chA_low, chA_upd, chA_scrub, sub_lowb, sub_lowe, pX_low, pX_ts, pX_gs, hTF]) | (refine awp_exit ?_; simp only [go_sem, chA_c, chA_g, chA_t, gnF_app, tnF_app, chA_gs, chA_ts, kS0, kS1, kS2, sl0, sl1, sl2, sn0, sn1, sn2, chA_low, chA_upd, chA_scrub, sub_lowb, sub_lowe, pX_low, pX_ts, pX_gs, hTF]) | (refine awp_ret ?_; try simp only [go_sem, chA_c, chA_g, chA_t, gnF_app, tnF_app, chA_gs, chA_ts, kS0, kS1, kS2, sl0, sl1, sl2, sn0, sn1, sn2, chA_low, chA_upd, chA_scrub, sub_lowb, sub_lowe, pX_low, pX_ts, pX_gs, hTF]) | (refine awp_condP rfl ?_; try simp only [go_sem, chA_c, chA_g, chA_t, gnF_app, tnF_app, chA_gs, chA_ts, kS0, kS1, kS2, sl0, sl1, sl2, sn0, sn1, sn2, chA_low, chA_upd, chA_scrub, sub_lowb, sub_lowe, pX_low, pX_ts, pX_gs, hTF]) | (refine BrP.mk (fun h => ?_) (fun h => ?_) <;> try simp (dsimp := false) (disch := omega) only [wrap64]) | (refine Br.mk (fun h => ?_) (fun h => ?_) <;> try simp (dsimp := false) (disch := omega) only [wrap64]) | refine Ob.mk (by first | omega | (intro _ _; rfl) | trivial | (intros; trivial) | assumption | (intro i hi; have h0 : i = 0 := (by omega); subst h0; first | rfl | trivial) | (intro i hi; have h0 : i = 0 ∨ i = 1 := (by omega); rcases h0 with rfl | rfl <;> rfl) | (intro i hi; have h0 : i = 0 ∨ i = 1 ∨ i = 2 := (by omega); rcases h0 with rfl | rfl | rfl <;> rfl)) ?_ | apply_assumption -exfalso -symm)
    all_goals (first | (show endQ _ _ _ _ _ _ _; (repeat (rename (∀ (A : Fr) (H : Hp), AWP _ _ _ _ A H → _) => hK; clear hK)); (repeat (rename (Fr → Hp → Prop) => K; clear K))) | (show Exists _; (repeat (rename (∀ (A : Fr) (H : Hp), AWP _ _ _ _ A H → _) => hK; clear hK)); (repeat (rename (Fr → Hp → Prop) => K; clear K))) | skip)
    · exfalso; omega
    · refine ⟨y + 1, by omega, by omega, Sub.toL (by simp only [go_sem] <;> first | trivial | (simp only [Option.some.injEq, AV.v.injEq, AV.own.injEq, AV.list.injEq, Value.int.injEq, Value.bool.injEq, true_and, and_true]; first | omega | (simp [e3]; done)) | (simp [e3]; done) | (simp [e3]; omega)) ?_⟩
      rw [e3]
      exact Hp.le_refl _
    · have e : y = n := by omega
      subst e
      have hkm : ∀ j, j < (knl (C1.T l) y).length → (knl (C1.T l) y).getD j [] ∈ knl (C1.T l) y := fun j hj => by
        rw [List.getD_eq_getElem?_getD, List.getElem?_eq_getElem hj]; exact List.getElem_mem _
      have hkt : ∀ j, j < (knl (C1.T l) y).length → ∃ z, C1.T l z = some ((knl (C1.T l) y).getD j []) := fun j hj => by
        obtain ⟨z, _, hz⟩ := knl_mem.1 (hkm j hj); exact ⟨z, hz⟩
      have hkp : ∀ j, j < (knl (C1.T l) y).length → Pm y ((knl (C1.T l) y).getD j []) ∧ fixB l ((knl (C1.T l) y).getD j []) ∧ Gen y (C1.S l) ((knl (C1.T l) y).getD j []) := fun j hj => by
        obtain ⟨z, hz⟩ := hkt j hj
        exact ⟨(hT1 z _ hz).1, (hT1 z _ hz).2, hs1.h.tg z _ hz⟩
      have hpS : p ∈ C1.S l := by rw [hC1, Ch.addS_self]; simp
      have hprod : ∀ j, j < (knl (C1.T l) y).length → Pm y (comp ((knl (C1.T l) y).getD j []) p) ∧ fixB l (comp ((knl (C1.T l) y).getD j []) p) ∧ Gen y (C1.S l) (comp ((knl (C1.T l) y).getD j []) p) := fun j hj =>
        ⟨(hkp j hj).1.comp hp, fixB.comp (hkp j hj).1 (by omega) (hkp j hj).2.1 hf, Gen.mul (hkp j hj).2.2 hpS⟩
      have hpl := hp.1
      refine awp_loop (ι := Ch × Nat) (fun z => [(10, .v (.int .i64 (z.2))), (8, .own 46 0 1 (knl (C1.T l) y).length), (0, .ref 1000000 0), (1, .v (.int .i64 (l))), (2, .list false 1 (p).length (cM iv 0 (p)))]) (fun z => (chH (kS y) y z.1).add (Hp.emp.upd 46 (.cells (knl (C1.T l) y).length (cM ints [] (knl (C1.T l) y)))))
        (fun z => z.2 ≤ (knl (C1.T l) y).length ∧ Run y l C1 z.1 ∧ ∀ j, j < z.2 → z.1.has (y - l) l (comp ((knl (C1.T l) y).getD j []) p) = true) (fun z => (knl (C1.T l) y).length - z.2) (C1, 0)
        ⟨Nat.zero_le _, Run.refl hs1.h, fun j hj => absurd hj (Nat.not_lt_zero j)⟩ (Sub.toL (by simp only [go_sem] <;> first | trivial | (simp only [Option.some.injEq, AV.v.injEq, AV.own.injEq, AV.list.injEq, Value.int.injEq, Value.bool.injEq, true_and, and_true]; first | omega | (simp; done)) | (simp; done) | (simp; omega)) (Hp.le_refl _)) ?_
      rintro ⟨C2, i⟩ ⟨hi, hr, hd⟩
      dsimp only at hi hr hd ⊢
      have hS2 : C2.S l = C1.S l := hr.eS l (Nat.le_refl _)
      have hkl2 : i < (knl (C1.T l) y).length → ((knl (C1.T l) y).getD i []).length = y := fun h => (hkp i h).1.1
      have hr' : Hold (Run y l C1 C2) := ⟨hr⟩
      have hac : i < (knl (C1.T l) y).length → _ := fun h => ihP C2 (comp ((knl (C1.T l) y).getD i []) p) hr.ok (hprod i h).1 (hprod i h).2.1 (by rw [hS2]; exact (hprod i h).2.2)
      clear hr
      repeat' (first | refine awp_seqK fun K hK => ?_ | (refine awp_regionK 9671480348396928400164743 rfl ?_; simp only [List.map_cons, List.map_nil]; simp (maxSteps := 1000000) (dsimp := false) (implicitDefEqProofs := false) (disch := omega) only [wrap64, go_sem, chA_c, chA_g, chA_t, gnF_app, tnF_app, chA_gs, chA_ts, kS0, kS1, kS2, sl0, sl1, sl2, sn0, sn1, sn2, chA_low, chA_upd, chA_scrub, sub_lowb, sub_lowe, pX_low, pX_ts, pX_gs]) | (refine awp_regionQK 9671480348396928400164743 (by kernel_rfl) (by kernel_rfl) (by kernel_rfl) ?_; simp only [List.map_cons, List.map_nil]; simp (maxSteps := 1000000) (dsimp := false) (implicitDefEqProofs := false) (disch := omega) only [wrap64, go_sem, chA_c, chA_g, chA_t, gnF_app, tnF_app, chA_gs, chA_ts, kS0, kS1, kS2, sl0, sl1, sl2, sn0, sn1, sn2, chA_low, chA_upd, chA_scrub, sub_lowb, sub_lowe, pX_low, pX_ts, pX_gs]) | refine awp_block ?_ | (refine awp_skip ?_; simp only [go_sem, chA_c, chA_g, chA_t, gnF_app, tnF_app, chA_gs, chA_ts, kS0, kS1, kS2, sl0, sl1, sl2, sn0, sn1, sn2, chA_low, chA_upd, chA_scrub, sub_lowb, sub_lowe, pX_low, pX_ts, pX_gs]) | (refine awp_exit ?_; simp only [go_sem, chA_c, chA_g, chA_t, gnF_app, tnF_app, chA_gs, chA_ts, kS0, kS1, kS2, sl0, sl1, sl2, sn0, sn1, sn2, chA_low, chA_upd, chA_scrub, sub_lowb, sub_lowe, pX_low, pX_ts, pX_gs]) | (refine awp_ret ?_; try simp only [go_sem, chA_c, chA_g, chA_t, gnF_app, tnF_app, chA_gs, chA_ts, kS0, kS1, kS2, sl0, sl1, sl2, sn0, sn1, sn2, chA_low, chA_upd, chA_scrub, sub_lowb, sub_lowe, pX_low, pX_ts, pX_gs]) | (refine awp_condP rfl ?_; try simp only [go_sem, chA_c, chA_g, chA_t, gnF_app, tnF_app, chA_gs, chA_ts, kS0, kS1, kS2, sl0, sl1, sl2, sn0, sn1, sn2, chA_low, chA_upd, chA_scrub, sub_lowb, sub_lowe, pX_low, pX_ts, pX_gs]) | (refine BrP.mk (fun h => ?_) (fun h => ?_) <;> try simp (dsimp := false) (disch := omega) only [wrap64]) | (refine Br.mk (fun h => ?_) (fun h => ?_) <;> try simp (dsimp := false) (disch := omega) only [wrap64]) | refine Ob.mk (by first | omega | (intro _ _; rfl) | trivial | (intros; trivial) | assumption | (intro i hi; have h0 : i = 0 := (by omega); subst h0; first | rfl | trivial) | (intro i hi; have h0 : i = 0 ∨ i = 1 := (by omega); rcases h0 with rfl | rfl <;> rfl) | (intro i hi; have h0 : i = 0 ∨ i = 1 ∨ i = 2 := (by omega); rcases h0 with rfl | rfl | rfl <;> rfl)) ?_ | ((first | ((first | refine atF (f := 176) ?_ | refine atQ (f := 176) ?_); (first | (refine cFI (hac := specCompose_ok ((knl (C1.T l) y).getD i []) p (by omega) (pm_lt (hkp i (by omega)).1 hp) 9) (hK := ?_)) | (refine cQI (hac := specCompose_ok ((knl (C1.T l) y).getD i []) p (by omega) (pm_lt (hkp i (by omega)).1 hp) 9) (hK := ?_)))) | ((first | refine atF (f := 179) ?_ | refine atQ (f := 179) ?_); refine callCh (R := Hp.emp.upd 46 (.cells (knl (C1.T l) y).length (cM ints [] (knl (C1.T l) y)))) (hac (by omega)) hok hn rfl (scrub_rows _) (fun h hh => pnC_pX (Nat.le_succ _) hh) (fun C5 hA5 => ?_))); simp (maxSteps := 1000000) (dsimp := false) (implicitDefEqProofs := false) (disch := omega) only [wrap64, go_sem, chA_c, chA_g, chA_t, gnF_app, tnF_app, chA_gs, chA_ts, kS0, kS1, kS2, sl0, sl1, sl2, sn0, sn1, sn2, chA_low, chA_upd, chA_scrub, sub_lowb, sub_lowe, pX_low, pX_ts, pX_gs]) | apply_assumption -exfalso -symm)
      all_goals (first | (show endQ _ _ _ _ _ _ _; (repeat (rename (∀ (A : Fr) (H : Hp), AWP _ _ _ _ A H → _) => hK; clear hK)); (repeat (rename (Fr → Hp → Prop) => K; clear K))) | (show Exists _; (repeat (rename (∀ (A : Fr) (H : Hp), AWP _ _ _ _ A H → _) => hK; clear hK)); (repeat (rename (Fr → Hp → Prop) => K; clear K))) | skip)
      · obtain ⟨r1, r2⟩ := hA5
        refine ⟨(C5, i + 1), ⟨by dsimp only; omega, hr'.h.trans r1 hl, fun j hj => ?_⟩, by dsimp only; omega, Sub.toL (by simp only [go_sem] <;> first | trivial | (simp only [Option.some.injEq, AV.v.injEq, AV.own.injEq, AV.list.injEq, Value.int.injEq, Value.bool.injEq, true_and, and_true]; first | omega | (simp; done)) | (simp; done) | (simp; omega)) (Hp.le_refl _)⟩
        dsimp only at hj ⊢
        by_cases e : j = i
        · subst e; exact r2
        · have hq := hprod j (by omega)
          exact r1.keep hr'.h.ok hl hq.1 hq.2.1 (hd j (by omega))
      · have e : i = (knl (C1.T l) y).length := by omega
        have hall : ∀ z t, C.T l z = some t → C2.has (y - l) l (comp t p) = true := fun z t ht => by
          have h1 := hw.t1 l z t hl ht
          have hz := h1.1.img_lt hl
          rw [h1.2.2] at hz
          have hm : t ∈ knl (C1.T l) y := knl_mem.2 ⟨z, hz, by rw [hTC]; exact ht⟩
          obtain ⟨j, hj, rfl⟩ := List.mem_iff_getElem.1 hm
          have := hd j (by omega)
          rwa [List.getD_eq_getElem?_getD, List.getElem?_eq_getElem hj] at this
        exact end_Ch' rfl (Run.fin hw hF hl hp hf (hC1 ▸ hs1.h) (hC1 ▸ hr'.h) hall) (le_add _ _)

theorem specGen_end (n : Nat) (hn : n ≤ 20) (C : Ch) (p : List Int) (hw : C.WF n) (hF : C.Full n n) (hp : Pm n p) :
    AC Try.prog 167 [.ref 1000000 0, .v (.int .i64 (n)), ints p] (chH (kS n) n C) (pnC n) (postC (kS n) n (Ch.Add n n C p)) := by
  have hh : C.has (n - n) n p = true := by rw [Nat.sub_self]; rfl
  refine ac_of_awp (N := ⟨_, pnC (n), fun h hh => pnC_low (Nat.lt_of_lt_of_le hh (by decide))⟩) Try.func167 rfl (by kernel_rfl) Try.ntmps167 (by simp) ?_
  simp only [argsFr, List.zipIdx_cons, List.zipIdx_nil, go_sem]
  repeat' (first | refine awp_seqK fun K hK => ?_ | (refine awp_regionK 9671480348396928400164743 rfl ?_; simp only [List.map_cons, List.map_nil]; simp (maxSteps := 1000000) (dsimp := false) (implicitDefEqProofs := false) (disch := omega) only [wrap64, go_sem, chH_c, kS0]) | (refine awp_regionQK 9671480348396928400164743 (by kernel_rfl) (by kernel_rfl) (by kernel_rfl) ?_; simp only [List.map_cons, List.map_nil]; simp (maxSteps := 1000000) (dsimp := false) (implicitDefEqProofs := false) (disch := omega) only [wrap64, go_sem, chH_c, kS0]) | refine awp_block ?_ | (refine awp_skip ?_; simp only [go_sem, chH_c, kS0]) | (refine awp_exit ?_; simp only [go_sem, chH_c, kS0]) | (refine awp_ret ?_; try simp only [go_sem, chH_c, kS0]) | (refine awp_condP rfl ?_; try simp only [go_sem, chH_c, kS0]) | (refine BrP.mk (fun h => ?_) (fun h => ?_) <;> try simp (dsimp := false) (disch := omega) only [wrap64]) | (refine Br.mk (fun h => ?_) (fun h => ?_) <;> try simp (dsimp := false) (disch := omega) only [wrap64]) | refine Ob.mk (by first | omega | (intro _ _; rfl) | trivial | (intros; trivial) | assumption | (intro i hi; have h0 : i = 0 := (by omega); subst h0; first | rfl | trivial) | (intro i hi; have h0 : i = 0 ∨ i = 1 := (by omega); rcases h0 with rfl | rfl <;> rfl) | (intro i hi; have h0 : i = 0 ∨ i = 1 ∨ i = 2 := (by omega); rcases h0 with rfl | rfl | rfl <;> rfl)) ?_ | apply_assumption -exfalso -symm)
  all_goals (first | (show endQ _ _ _ _ _ _ _; (repeat (rename (∀ (A : Fr) (H : Hp), AWP _ _ _ _ A H → _) => hK; clear hK)); (repeat (rename (Fr → Hp → Prop) => K; clear K))) | (show Exists _; (repeat (rename (∀ (A : Fr) (H : Hp), AWP _ _ _ _ A H → _) => hK; clear hK)); (repeat (rename (Fr → Hp → Prop) => K; clear K))) | skip)
  · exact end_Ch rfl (Ch.Add.none hw hF hh) (Hp.le_refl _)
  all_goals (exfalso; omega)
theorem specGen_ok (n : Nat) (hn : n ≤ 20) : ∀ (m l : Nat) (C : Ch) (p : List Int), l + m = n → C.WF n → C.Full n l → C.Ind n → Pm n p → fixB l p →
    AC Try.prog 167 [.ref 1000000 0, .v (.int .i64 (l)), ints p] (chH (kS n) n C) (pnC l) (postC (kS n) n (Ch.Add n l C p))
  | 0, l, C, p, hlm, hw, hF, hI, hp, hf => by
    obtain rfl : l = n := by omega
    exact specGen_end l hn C p hw hF hp
  | m + 1, l, C, p, hlm, hw, hF, hI, hp, hf =>
    specGen_step n hn l C p (by omega) hw hF hI hp hf (fun C x h1 h2 h3 h4 => specProd_ok n hn l (by omega) (fun C p h1 h2 h3 h4 h5 => by
      have := specGen_ok n hn m (l + 1) C p (by omega) h1 h2 h3 h4 h5
      rwa [Int.natCast_add] at this) (n - C.cnt n l + 1) C x (by omega) h1 h2 h3 h4)
end Go.Proofs.Ytdllbnchcjgcdaa
end
/- A new chain, and the chain of generators: the reference's. -/
section
namespace Go.Proofs.Ytdllbnchcjgcdaa
open Go.Av
set_option linter.unusedSimpArgs false
set_option linter.unusedVariables false
attribute [local irreducible] AWP CallG Ob Br BrP Go.Av.Sub endQ AOps OpV AC thenA blkA opsVC opVC withA withArgs opsQ opQ CallQ withA2 withArgs2
open Go.Pm (Pm comp invp idn img Ch fixB)

def kSk (n j k : Nat) : Nat → AV := vecF [.v (.int .i64 n), .own 1000002 0 1 k, .own 1000001 0 1 j]
theorem kSk0 (n j k : Nat) : kSk n j k 0 = .v (.int .i64 n) := rfl
theorem kSk1 (n j k : Nat) : kSk n j k 1 = .own 1000002 0 1 k := rfl
theorem kSk2 (n j k : Nat) : kSk n j k 2 = .own 1000001 0 1 j := rfl
theorem chG_allS (n : Nat) (C : Ch) : chG (kSk n n n) n n n C = chH (kS n) n C := rfl
section
variable {F : Nat → AV} {n j k : Nat} {C : Ch} {R : Hp}
theorem skS (n j k : Nat) : scF (fun x => x == 1000002) (kSk n j k) = vecF [.v (.int .i64 n), .dead, .own 1000001 0 1 j] := by
  funext i
  match i with
  | 0 => rfl
  | 1 => rfl
  | 2 => rfl
  | i + 3 => rfl
theorem chG_scrubS {h m p q : Nat} (hj : j ≤ 20) (hk : k ≤ 20) (hh : h < 1000000) : (chG (kSk m p q) n j k C).scrub (fun x => x == h) = chG (kSk m p q) n j k C := by
  have hb : ∀ x, 1000000 ≤ x → (x == h) = false := fun x hx => beq_eq_false_iff_ne.2 (by omega)
  have hs : ∀ d i, (sub d i == h) = false := fun d i => hb _ (by have := sub_ge d i; rw [FB_eq] at this; omega)
  have e0 : (fun i => (kSk m p q i).scrub (fun x => x == h)) = kSk m p q := by
    funext i
    match i with
    | 0 => rfl
    | 1 => simp only [kSk1, AV.scrub, hb 1000002 (by decide)]; rfl
    | 2 => simp only [kSk2, AV.scrub, hb 1000001 (by decide)]; rfl
    | i + 3 => rfl
  have e1 : (fun i => (gnF j C i).scrub (fun x => x == h)) = gnF j C := by
    funext i; unfold gnF; split
    · simp [AV.scrub, hs]
    · rfl
  have e2 : (fun i => (tnG k n i).scrub (fun x => x == h)) = tnG k n := by
    funext i; unfold tnG; split
    · simp [AV.scrub, hs]
    · rfl
  have e4 : ∀ i, (fun j => (cM ints [] (C.S i) j).scrub (fun x => x == h)) = cM ints [] (C.S i) := fun i => rfl
  funext x
  unfold Hp.scrub
  cases e : chG (kSk m p q) n j k C x with
  | none => rfl
  | some B =>
    simp only [Option.map_some, Option.some.injEq]
    rcases chG_names e with ⟨_, rfl⟩ | ⟨_, rfl⟩ | ⟨_, rfl⟩ | ⟨i, _, _, rfl⟩ | ⟨i, _, _, rfl⟩
    · simp only [Blk.scrub, e0]
    · simp only [Blk.scrub, e1]
    · simp only [Blk.scrub, e2]
    · simp only [Blk.scrub, e4]
    · simp only [Blk.scrub, tF_scrub]
theorem lay_startS {H : Hp} {f : Nat → AV} (h1 : H 8 = some (.cells 3 f)) (f0 : f 0 = .v (.int .i64 n)) (f1 : f 1 = .v (.slice none 0 0)) (f2 : f 2 = .v (.slice none 0 0)) :
    ∀ h B', chG (kSk n 0 0) n 0 0 (C0 n) h = some B' → (∃ g m f f', (if h = 1000000 then some 8 else none) = some g ∧ B' = .cells m f' ∧ H g = some (.cells m f) ∧ ∀ i, i < m → Lay (fun h => if h = 1000000 then some 8 else none) (f i) (f' i))
      ∨ ((if h = 1000000 then some 8 else none : Option Nat) = none ∧ ∃ f, B' = .cells 0 f) := by
  intro h B' hB
  rcases chG_names hB with ⟨rfl, rfl⟩ | ⟨rfl, rfl⟩ | ⟨rfl, rfl⟩ | ⟨i, hi, rfl, rfl⟩ | ⟨i, hi, rfl, rfl⟩
  · refine .inl ⟨8, 3, f, kSk n 0 0, rfl, rfl, h1, fun i hi => ?_⟩
    have h0 : i = 0 ∨ i = 1 ∨ i = 2 := by omega
    rcases h0 with rfl | rfl | rfl
    · rw [f0]; exact .plain trivial
    · rw [f1]; exact .nil rfl
    · rw [f2]; exact .nil rfl
  · exact .inr ⟨rfl, _, rfl⟩
  · exact .inr ⟨rfl, _, rfl⟩
  · omega
  · omega
def rhoS (k h : Nat) : Option Nat := if h = sub 1000002 k then some 15 else if h = sub 1000001 k then some 36 else some h
theorem rhoS_lit {k h : Nat} (hh : h < 2097152) : rhoS k h = some h := by
  have h1 := sub_ge 1000002 k
  have h2 := sub_ge 1000001 k
  rw [FB_eq] at h1 h2
  unfold rhoS
  rw [if_neg (by omega), if_neg (by omega)]
theorem rhoS_gs {k i : Nat} (hi : i < 20) (hk : k < 20) (h : i ≠ k) : rhoS k (sub 1000001 i) = some (sub 1000001 i) := by
  unfold rhoS
  rw [if_neg (beq_eq_false_iff_ne.1 (sub_ne_sub hi hk (.inl (by decide)))), if_neg (beq_eq_false_iff_ne.1 (sub_ne_sub hi hk (.inr h)))]
theorem rhoS_ts {k i : Nat} (hi : i < 20) (hk : k < 20) (h : i ≠ k) : rhoS k (sub 1000002 i) = some (sub 1000002 i) := by
  unfold rhoS
  rw [if_neg (beq_eq_false_iff_ne.1 (sub_ne_sub hi hk (.inr h))), if_neg (beq_eq_false_iff_ne.1 (sub_ne_sub hi hk (.inl (by decide))))]
theorem rhoS_k (k : Nat) : rhoS k (sub 1000002 k) = some 15 := if_pos rfl
theorem rhoS_g {k : Nat} (hk : k < 20) : rhoS k (sub 1000001 k) = some 36 := by
  unfold rhoS
  rw [if_neg (beq_eq_false_iff_ne.1 (sub_ne_sub hk hk (.inl (by decide)))), if_pos rfl]
theorem lay_stepS (hn : n ≤ 20) (hk : k < n) {H : Hp} {F0 F1 F2 F3 F4 : Nat → AV} (h0 : H 1000000 = some (.cells 3 F0)) (f0 : F0 0 = .v (.int .i64 n)) (f01 : F0 1 = .own 1000002 0 1 (k + 1)) (f02 : F0 2 = .own 1000001 0 1 (k + 1))
    (h1 : H 1000001 = some (.cells (k + 1) F1)) (f1 : ∀ i, i < k → F1 i = .own (sub 1000001 i) 0 1 0) (f1k : F1 k = .own 36 0 1 0)
    (h2 : H 1000002 = some (.cells (k + 1) F2)) (f2 : ∀ i, i < k → F2 i = .own (sub 1000002 i) 0 1 n) (f2k : F2 k = .own 15 0 1 n) (h3 : ∀ i, i < k → H (sub 1000001 i) = some (.cells 0 (cM ints [] []))) (h4 : ∀ i, i < k → H (sub 1000002 i) = some (.cells n (tF ((C0 n).T i))))
    (h5 : H 15 = some (.cells n F3)) (f3 : ∀ i, i < n → F3 i = tF ((C0 n).T k) i) (h6 : H 36 = some (.cells 0 F4)) :
    ∀ h B', chG (kSk n (k + 1) (k + 1)) n (k + 1) (k + 1) (C0 n) h = some B' → (∃ g m f f', rhoS k h = some g ∧ B' = .cells m f' ∧ H g = some (.cells m f) ∧ ∀ i, i < m → Lay (rhoS k) (f i) (f' i)) ∨ (rhoS k h = none ∧ ∃ f, B' = .cells 0 f) := by
  intro h B' hB
  rcases chG_names hB with ⟨rfl, rfl⟩ | ⟨rfl, rfl⟩ | ⟨rfl, rfl⟩ | ⟨i, hi, rfl, rfl⟩ | ⟨i, hi, rfl, rfl⟩
  · refine .inl ⟨_, 3, _, _, rhoS_lit (by decide), rfl, h0, fun i hi => ?_⟩
    have h0 : i = 0 ∨ i = 1 ∨ i = 2 := by omega
    rcases h0 with rfl | rfl | rfl
    · rw [f0]; exact .plain trivial
    · rw [f01]; exact .own (rhoS_lit (by decide))
    · rw [f02]; exact .own (rhoS_lit (by decide))
  · refine .inl ⟨_, k + 1, _, _, rhoS_lit (by decide), rfl, h1, fun i hi => ?_⟩
    rw [gnF_app _ hi]
    by_cases e : i = k
    · subst e; rw [f1k]; exact .own (rhoS_g (by omega))
    · rw [f1 i (by omega)]; exact .own (rhoS_gs (by omega) (by omega) e)
  · refine .inl ⟨_, k + 1, _, _, rhoS_lit (by decide), rfl, h2, fun i hi => ?_⟩
    rw [show tnG (k + 1) n i = .own (sub 1000002 i) 0 1 n from if_pos hi]
    by_cases e : i = k
    · subst e; rw [f2k]; exact .own (rhoS_k _)
    · rw [f2 i (by omega)]; exact .own (rhoS_ts (by omega) (by omega) e)
  · by_cases e : i = k
    · subst e
      exact .inl ⟨_, 0, _, _, rhoS_g (by omega), rfl, h6, fun i hi => by omega⟩
    · exact .inl ⟨_, _, _, _, rhoS_gs (by omega) (by omega) e, rfl, h3 i (by omega), fun i hi => .plain trivial⟩
  · by_cases e : i = k
    · subst e
      exact .inl ⟨_, _, _, _, rhoS_k _, rfl, h5, fun j hj => by rw [f3 j hj]; exact .plain (tF_plain _ _)⟩
    · exact .inl ⟨_, _, _, _, rhoS_ts (by omega) (by omega) e, rfl, h4 i (by omega), fun j hj => .plain (tF_plain _ _)⟩
theorem rhoS_inj {h g m : Nat} (hh : chG (kSk n (k + 1) (k + 1)) n (k + 1) (k + 1) (C0 n) h ≠ none) (hg : chG (kSk n (k + 1) (k + 1)) n (k + 1) (k + 1) (C0 n) g ≠ none) (e1 : rhoS k h = some m) (e2 : rhoS k g = some m) : h = g := by
  have low : ∀ x, chG (kSk n (k + 1) (k + 1)) n (k + 1) (k + 1) (C0 n) x ≠ none → x ≠ 15 ∧ x ≠ 36 := fun x hx => ⟨fun e => by subst e; exact hx (chG_low (by decide)), fun e => by subst e; exact hx (chG_low (by decide))⟩
  have l1 := low h hh
  have l2 := low g hg
  unfold rhoS at e1 e2
  split at e1
  · split at e2
    · omega
    · split at e2 <;> simp only [Option.some.injEq] at e1 e2 <;> omega
  · split at e1
    · split at e2
      · simp only [Option.some.injEq] at e1 e2; omega
      · split at e2 <;> simp only [Option.some.injEq] at e1 e2 <;> omega
    · split at e2
      · simp only [Option.some.injEq] at e1 e2; omega
      · split at e2 <;> simp only [Option.some.injEq] at e1 e2 <;> omega
theorem sb1 (d i : Nat) : (sub d i == 1000001) = false := beq_eq_false_iff_ne.2 (sub_lits d i).2.1
end

theorem emptyChain_ok (n : Nat) (hn : 1 ≤ n ∧ n ≤ 20) : AC Try.prog 166 [.v (.int .i64 (n))] Hp.emp (fun _ => false) (postN (kS n) n (· = C0 n)) := by
  refine ac_of_awp (N := ⟨_, fun _ => false, fun _ _ => rfl⟩) Try.func166 rfl (by kernel_rfl) Try.ntmps166 (by simp) ?_
  simp only [argsFr, List.zipIdx_cons, List.zipIdx_nil, go_sem]
  repeat' (first | refine awp_seqK fun K hK => ?_ | (refine awp_regionK 2109 rfl ?_; simp only [List.map_cons, List.map_nil]; simp (maxSteps := 1000000) (dsimp := false) (implicitDefEqProofs := false) (disch := omega) only [wrap64, go_sem]) | (refine awp_regionQK 2109 (by kernel_rfl) (by kernel_rfl) (by kernel_rfl) ?_; simp only [List.map_cons, List.map_nil]; simp (maxSteps := 1000000) (dsimp := false) (implicitDefEqProofs := false) (disch := omega) only [wrap64, go_sem]) | refine awp_block ?_ | (refine awp_skip ?_; simp only [go_sem]) | (refine awp_exit ?_; simp only [go_sem]) | (refine awp_ret ?_; try simp only [go_sem]) | (refine awp_condP rfl ?_; try simp only [go_sem]) | (refine BrP.mk (fun h => ?_) (fun h => ?_) <;> try simp (dsimp := false) (disch := omega) only [wrap64]) | (refine Br.mk (fun h => ?_) (fun h => ?_) <;> try simp (dsimp := false) (disch := omega) only [wrap64]) | refine Ob.mk (by first | omega | (intro _ _; rfl) | trivial | (intros; trivial) | assumption | (intro i hi; have h0 : i = 0 := (by omega); subst h0; first | rfl | trivial) | (intro i hi; have h0 : i = 0 ∨ i = 1 := (by omega); rcases h0 with rfl | rfl <;> rfl) | (intro i hi; have h0 : i = 0 ∨ i = 1 ∨ i = 2 := (by omega); rcases h0 with rfl | rfl | rfl <;> rfl)) ?_ | apply_assumption -exfalso -symm)
  all_goals (first | (show endQ _ _ _ _ _ _ _; (repeat (rename (∀ (A : Fr) (H : Hp), AWP _ _ _ _ A H → _) => hK; clear hK)); (repeat (rename (Fr → Hp → Prop) => K; clear K))) | (show Exists _; (repeat (rename (∀ (A : Fr) (H : Hp), AWP _ _ _ _ A H → _) => hK; clear hK)); (repeat (rename (Fr → Hp → Prop) => K; clear K))) | skip)
  refine awp_loop (ι := Nat) (fun k => [(4, .v (.int .i64 (k))), (3, .ref 1000000 0), (0, .v (.int .i64 (n)))]) (fun k => chG (kSk n k k) n k k (C0 n)) (fun k => k ≤ n) (fun k => n - k) 0 (Nat.zero_le _) (Sub.lay (fun h => if h = 1000000 then some 8 else none) rfl (lay_cons ⟨_, rfl, .plain trivial⟩ (lay_cons ⟨_, rfl, .ref rfl⟩ (lay_cons ⟨_, rfl, .plain trivial⟩ lay_nil))) (lay_startS rfl rfl rfl rfl) ?_) ?_
  · intro h g m _ _ e1 e2
    split at e1
    · split at e2
      · omega
      · simp at e2
    · simp at e1
  intro k hk
  have hn2 := hn.2
  repeat' (first | refine awp_seqK fun K hK => ?_ | (refine awp_regionK 2109 rfl ?_; simp only [List.map_cons, List.map_nil]; simp (maxSteps := 1000000) (dsimp := false) (implicitDefEqProofs := false) (disch := omega) only [wrap64, go_sem, chG_c, chG_t, chG_g, chG_scrubS, hG_c, kSk0, kSk1, kSk2, skS]) | (refine awp_regionQK 2109 (by kernel_rfl) (by kernel_rfl) (by kernel_rfl) ?_; simp only [List.map_cons, List.map_nil]; simp (maxSteps := 1000000) (dsimp := false) (implicitDefEqProofs := false) (disch := omega) only [wrap64, go_sem, chG_c, chG_t, chG_g, chG_scrubS, hG_c, kSk0, kSk1, kSk2, skS]) | refine awp_block ?_ | (refine awp_skip ?_; simp only [go_sem, chG_c, chG_t, chG_g, chG_scrubS, hG_c, kSk0, kSk1, kSk2, skS]) | (refine awp_exit ?_; simp only [go_sem, chG_c, chG_t, chG_g, chG_scrubS, hG_c, kSk0, kSk1, kSk2, skS]) | (refine awp_ret ?_; try simp only [go_sem, chG_c, chG_t, chG_g, chG_scrubS, hG_c, kSk0, kSk1, kSk2, skS]) | (refine awp_condP rfl ?_; try simp only [go_sem, chG_c, chG_t, chG_g, chG_scrubS, hG_c, kSk0, kSk1, kSk2, skS]) | (refine BrP.mk (fun h => ?_) (fun h => ?_) <;> try simp (dsimp := false) (disch := omega) only [wrap64]) | (refine Br.mk (fun h => ?_) (fun h => ?_) <;> try simp (dsimp := false) (disch := omega) only [wrap64]) | refine Ob.mk (by first | omega | (intro _ _; rfl) | trivial | (intros; trivial) | assumption | (intro i hi; have h0 : i = 0 := (by omega); subst h0; first | rfl | trivial) | (intro i hi; have h0 : i = 0 ∨ i = 1 := (by omega); rcases h0 with rfl | rfl <;> rfl) | (intro i hi; have h0 : i = 0 ∨ i = 1 ∨ i = 2 := (by omega); rcases h0 with rfl | rfl | rfl <;> rfl)) ?_ | ((first | ((first | refine atF (f := 149) ?_ | refine atQ (f := 149) ?_); (first | (refine cFI (hac := specIdentity_ok n (by omega) 9) (hK := ?_)) | (refine cQI (hac := specIdentity_ok n (by omega) 9) (hK := ?_))))); simp (maxSteps := 1000000) (dsimp := false) (implicitDefEqProofs := false) (disch := omega) only [wrap64, go_sem, chG_c, chG_t, chG_g, chG_scrubS, hG_c, kSk0, kSk1, kSk2, skS]) | apply_assumption -exfalso -symm)
  all_goals (first | (show endQ _ _ _ _ _ _ _; (repeat (rename (∀ (A : Fr) (H : Hp), AWP _ _ _ _ A H → _) => hK; clear hK)); (repeat (rename (Fr → Hp → Prop) => K; clear K))) | (show Exists _; (repeat (rename (∀ (A : Fr) (H : Hp), AWP _ _ _ _ A H → _) => hK; clear hK)); (repeat (rename (Fr → Hp → Prop) => K; clear K))) | skip)
  · have hs1 : ∀ x, (Hp.scrub (fun x => x == 1000001) (Hp.scrub (fun x => x == 37) (Hp.scrub (fun x => x == 36) (Hp.scrub (fun x => x == 1000002) (chG (kSk n k k) n k k (C0 n)))))) x = ((((chG (kSk n k k) n k k (C0 n) x).map (Blk.scrub (fun x => x == 1000002))).map (Blk.scrub (fun x => x == 36))).map (Blk.scrub (fun x => x == 37))).map (Blk.scrub (fun x => x == 1000001)) := fun _ => rfl
    have hne : ∀ d i, sub d i ≠ 15 ∧ sub d i ≠ 27 ∧ sub d i ≠ 36 ∧ sub d i ≠ 37 := fun d i => by have := sub_ge d i; rw [FB_eq] at this; omega
    have hlb : ∀ d i x, x < 1000000 → (sub d i == x) = false := fun d i x hx => sub_lowb hx
    refine ⟨k + 1, by omega, by omega, Sub.lay (rhoS k) rfl (lay_cons ⟨_, rfl, .plain trivial⟩ (lay_cons ⟨_, rfl, .ref (rhoS_lit (by decide))⟩ (lay_cons ⟨_, rfl, .plain trivial⟩ lay_nil))) (lay_stepS hn2 (by omega) rfl rfl rfl rfl rfl (fun i hi => ?_) ?_ rfl (fun i hi => ?_) ?_ (fun i hi => ?_) (fun i hi => ?_) rfl (fun i hi => ?_) rfl) (fun h g m => rhoS_inj)⟩
    · have e : gnF k (C0 n) i = .own (sub 1000001 i) 0 1 0 := gnF_app _ hi
      unfold apF
      rw [if_pos hi]
      simp only [scF, e, AV.scrub, sb1, sb2, hlb _ _ 36 (by decide), hlb _ _ 37 (by decide), Bool.false_eq_true, if_false]
    · unfold apF setF
      rw [if_neg (by omega), if_pos (by omega)]
    · have e : tnG k n i = .own (sub 1000002 i) 0 1 n := if_pos hi
      unfold apF
      rw [if_pos hi]
      simp only [scF, e, AV.scrub, sb1, sb2, hlb _ _ 36 (by decide), hlb _ _ 37 (by decide), Bool.false_eq_true, if_false]
    · unfold apF setF
      rw [if_neg (by omega), if_pos (by omega)]
    · unfold Hp.upd
      rw [if_neg (sub_lits _ _).1, if_neg (sub_lits _ _).2.1, if_neg (hne _ _).2.2.2, if_neg (hne _ _).2.2.1, if_neg (sub_lits _ _).1, if_neg (sub_lits _ _).2.2, if_neg (hne _ _).2.1, if_neg (hne _ _).1, hs1, chG_gs hi (by omega)]; rfl
    · unfold Hp.upd
      rw [if_neg (sub_lits _ _).1, if_neg (sub_lits _ _).2.1, if_neg (hne _ _).2.2.2, if_neg (hne _ _).2.2.1, if_neg (sub_lits _ _).1, if_neg (sub_lits _ _).2.2, if_neg (hne _ _).2.1, if_neg (hne _ _).1, hs1, chG_ts hi (by omega)]
      simp only [Option.map_some, Blk.scrub, tF_scrub]
    · unfold setF tF C0
      by_cases e : i = k
      · subst e; simp only [if_pos]; rw [idn_marks]; rfl
      · simp only [if_neg e, zF1]
  · have e : k = n := by omega
    subst e
    exact end_post rfl rfl (Hp.le_refl _) ⟨rfl, _, rfl, chG_allS _ _⟩

theorem buildChain_ok (n : Nat) (gs : List (List Int)) (hn : 1 ≤ n ∧ n ≤ 20) (hg : gensP n gs) (hgl : gs.length ≤ 8) : AC Try.prog 134 [.v (.int .i64 (n)), intss gs] Hp.emp (fun _ => false) (postN (kS n) n (Of n gs)) := by
  have hn2 := hn.2
  have hg1 : ∀ i, i < gs.length → Pm n (gs.getD i []) := hg.2.2
  have hgl1 : ∀ i, i < gs.length → (gs.getD i []).length = n := fun i hi => (hg1 i hi).1
  have hgm : ∀ m, ∀ g ∈ gs.take m, Pm n g := fun m g hm => by
    obtain ⟨j, hj, rfl⟩ := List.mem_iff_getElem.1 (List.mem_of_mem_take hm)
    have := hg1 j hj
    rwa [List.getD_eq_getElem?_getD, List.getElem?_eq_getElem hj] at this
  refine ac_of_awp (N := ⟨_, fun _ => false, fun _ _ => rfl⟩) Try.func134 rfl (by kernel_rfl) Try.ntmps134 (by simp) ?_
  simp only [argsFr, List.zipIdx_cons, List.zipIdx_nil, go_sem]
  repeat' (first | refine awp_seqK fun K hK => ?_ | (refine awp_regionK 4211 rfl ?_; simp only [List.map_cons, List.map_nil]; simp (maxSteps := 1000000) (dsimp := false) (implicitDefEqProofs := false) (disch := omega) only [wrap64, go_sem]) | (refine awp_regionQK 4211 (by kernel_rfl) (by kernel_rfl) (by kernel_rfl) ?_; simp only [List.map_cons, List.map_nil]; simp (maxSteps := 1000000) (dsimp := false) (implicitDefEqProofs := false) (disch := omega) only [wrap64, go_sem]) | refine awp_block ?_ | (refine awp_skip ?_; simp only [go_sem]) | (refine awp_exit ?_; simp only [go_sem]) | (refine awp_ret ?_; try simp only [go_sem]) | (refine awp_condP rfl ?_; try simp only [go_sem]) | (refine BrP.mk (fun h => ?_) (fun h => ?_) <;> try simp (dsimp := false) (disch := omega) only [wrap64]) | (refine Br.mk (fun h => ?_) (fun h => ?_) <;> try simp (dsimp := false) (disch := omega) only [wrap64]) | refine Ob.mk (by first | omega | (intro _ _; rfl) | trivial | (intros; trivial) | assumption | (intro i hi; have h0 : i = 0 := (by omega); subst h0; first | rfl | trivial) | (intro i hi; have h0 : i = 0 ∨ i = 1 := (by omega); rcases h0 with rfl | rfl <;> rfl) | (intro i hi; have h0 : i = 0 ∨ i = 1 ∨ i = 2 := (by omega); rcases h0 with rfl | rfl | rfl <;> rfl)) ?_ | ((first | ((first | refine atF (f := 166) ?_ | refine atQ (f := 166) ?_); refine callNew (emptyChain_ok n hn) (.inr rfl) hn2 rfl rfl (fun C hC => ?_))); simp (maxSteps := 1000000) (dsimp := false) (implicitDefEqProofs := false) (disch := omega) only [wrap64, go_sem]) | apply_assumption -exfalso -symm)
  all_goals (first | (show endQ _ _ _ _ _ _ _; (repeat (rename (∀ (A : Fr) (H : Hp), AWP _ _ _ _ A H → _) => hK; clear hK)); (repeat (rename (Fr → Hp → Prop) => K; clear K))) | (show Exists _; (repeat (rename (∀ (A : Fr) (H : Hp), AWP _ _ _ _ A H → _) => hK; clear hK)); (repeat (rename (Fr → Hp → Prop) => K; clear K))) | skip)
  subst hC
  refine awp_loop (ι := Ch × Nat) (fun x => [(6, .v (.int .i64 (x.2))), (5, .ref 1000000 0), (1, .list false 1 (gs).length (cM ints [] (gs)))]) (fun x => (chH (kS n) n x.1).add Hp.emp) (fun x => x.2 ≤ gs.length ∧ x.1.WF n ∧ x.1.Full n 0 ∧ x.1.Ind n ∧ ∀ g, Go.Pm.Gen n (gs.take x.2) g ↔ Go.Pm.Gen n (x.1.S 0) g) (fun x => gs.length - x.2) (C0 n, 0)
    ⟨Nat.zero_le _, C0_wf n, C0_full n, C0_ind n, fun g => Iff.rfl⟩ (Sub.toL (by simp only [go_sem] <;> first | trivial | (simp only [Option.some.injEq, AV.v.injEq, AV.own.injEq, AV.list.injEq, Value.int.injEq, Value.bool.injEq, true_and, and_true]; first | omega | (simp; done)) | (simp; done) | (simp; omega)) (Hp.le_refl _)) ?_
  rintro ⟨C, i⟩ ⟨hi, hw, hF, hI, hG⟩
  dsimp only at hi hw hF hI hG ⊢
  have hgi := hgl1 i
  have hI' : Hold (C.Ind n) := ⟨hI⟩
  clear hI
  have hac : i < gs.length → AC Try.prog 167 [.ref 1000000 0, .v (.int .i64 (0)), ints (gs.getD i [])] (chH (kS n) n C) (pnC 0) (postC (kS n) n (Ch.Add n 0 C (gs.getD i []))) := fun h =>
    specGen_ok n hn2 n 0 C (gs.getD i []) (by omega) hw hF hI'.h (hg1 i h) (fun j hj => by omega)
  repeat' (first | refine awp_seqK fun K hK => ?_ | (refine awp_regionK 4211 rfl ?_; simp only [List.map_cons, List.map_nil]; simp (maxSteps := 1000000) (dsimp := false) (implicitDefEqProofs := false) (disch := omega) only [wrap64, go_sem, pX_low]) | (refine awp_regionQK 4211 (by kernel_rfl) (by kernel_rfl) (by kernel_rfl) ?_; simp only [List.map_cons, List.map_nil]; simp (maxSteps := 1000000) (dsimp := false) (implicitDefEqProofs := false) (disch := omega) only [wrap64, go_sem, pX_low]) | refine awp_block ?_ | (refine awp_skip ?_; simp only [go_sem, pX_low]) | (refine awp_exit ?_; simp only [go_sem, pX_low]) | (refine awp_ret ?_; try simp only [go_sem, pX_low]) | (refine awp_condP rfl ?_; try simp only [go_sem, pX_low]) | (refine BrP.mk (fun h => ?_) (fun h => ?_) <;> try simp (dsimp := false) (disch := omega) only [wrap64]) | (refine Br.mk (fun h => ?_) (fun h => ?_) <;> try simp (dsimp := false) (disch := omega) only [wrap64]) | refine Ob.mk (by first | omega | (intro _ _; rfl) | trivial | (intros; trivial) | assumption | (intro i hi; have h0 : i = 0 := (by omega); subst h0; first | rfl | trivial) | (intro i hi; have h0 : i = 0 ∨ i = 1 := (by omega); rcases h0 with rfl | rfl <;> rfl) | (intro i hi; have h0 : i = 0 ∨ i = 1 ∨ i = 2 := (by omega); rcases h0 with rfl | rfl | rfl <;> rfl)) ?_ | ((first | ((first | refine atF (f := 95) ?_ | refine atQ (f := 95) ?_); (first | (refine cFI (hac := specCopyInts_ok (gs.getD i []) (by omega) 9) (hK := ?_)) | (refine cQI (hac := specCopyInts_ok (gs.getD i []) (by omega) 9) (hK := ?_)))) | ((first | refine atF (f := 167) ?_ | refine atQ (f := 167) ?_); refine callCh (R := Hp.emp) (hac (by omega)) (.inr rfl) hn2 rfl rfl (fun h hh => by cases hh) (fun C5 hA5 => ?_))); simp (maxSteps := 1000000) (dsimp := false) (implicitDefEqProofs := false) (disch := omega) only [wrap64, go_sem, pX_low]) | apply_assumption -exfalso -symm)
  all_goals (first | (show endQ _ _ _ _ _ _ _; (repeat (rename (∀ (A : Fr) (H : Hp), AWP _ _ _ _ A H → _) => hK; clear hK)); (repeat (rename (Fr → Hp → Prop) => K; clear K))) | (show Exists _; (repeat (rename (∀ (A : Fr) (H : Hp), AWP _ _ _ _ A H → _) => hK; clear hK)); (repeat (rename (Fr → Hp → Prop) => K; clear K))) | skip)
  · refine ⟨(C5, i + 1), ⟨by dsimp only; omega, hA5.wf, hA5.full, hA5.ind hI'.h, ?_⟩, by dsimp only; omega, Sub.toL (by simp only [go_sem] <;> first | trivial | (simp only [Option.some.injEq, AV.v.injEq, AV.own.injEq, AV.list.injEq, Value.int.injEq, Value.bool.injEq, true_and, and_true]; first | omega | (simp; done)) | (simp; done) | (simp; omega)) (Hp.le_refl _)⟩
    dsimp only
    have hlt : i < gs.length := by omega
    have e := hA5.gen (hg1 i hlt) (hgm i) hG
    rw [List.take_succ_eq_append_getElem hlt]
    rw [List.getD_eq_getElem?_getD, List.getElem?_eq_getElem hlt] at e
    exact e
  · have e : i = gs.length := by omega
    subst e
    rw [List.take_length] at hG
    exact end_post rfl rfl (le_add _ _) ⟨rfl, C, ⟨hw, hF, hG⟩, rfl⟩
end Go.Proofs.Ytdllbnchcjgcdaa
end
/- IsReachable: both texts ask whether the state lies in the group of the moves. -/
section
namespace Go.Proofs.Ytdllbnchcjgcdaa
open Go.Av
set_option linter.unusedSimpArgs false
set_option linter.unusedVariables false
attribute [local irreducible] AWP CallG Ob Br BrP Go.Av.Sub endQ AOps OpV AC thenA blkA opsVC opVC withA withArgs opsQ opQ CallQ withA2 withArgs2
open Go.Pm (Pm comp invp idn img Ch fixB)

/-- Whether a permutation is generated. -/
noncomputable def gB (n : Nat) (gs : List (List Int)) (s : List Int) : Bool := @decide (Go.Pm.Gen n gs s) (Classical.propDecidable _)
theorem gB_has {n : Nat} {gs : List (List Int)} {C : Ch} (h : Of n gs C) {s : List Int} (hs : Pm n s) : C.has (n - 0) 0 s = gB n gs s := by
  have h1 := Ch.has_iff h.1 (n - 0) 0 (by omega) h.2.1 s hs (fun j hj => by omega)
  rw [← h.2.2] at h1
  have h2 : gB n gs s = true ↔ Go.Pm.Gen n gs s := by
    unfold gB
    exact ⟨fun e => @of_decide_eq_true _ (Classical.propDecidable _) e, fun e => @decide_eq_true _ (Classical.propDecidable _) e⟩
  cases e : C.has (n - 0) 0 s <;> cases e2 : gB n gs s <;> simp_all

theorem chainHas_ok (n : Nat) (C : Ch) (p : List Int) (hn : n ≤ 20) (hw : C.WF n) (hp : Pm n p) : AC Try.prog 141 [chS n C, ints p] Hp.emp (fun _ => false) (retV (.v (.bool (C.has (n - 0) 0 p)))) := by
  obtain ⟨hv1, hv2⟩ := sif_has C (n - 0) 0 p
  rw [show 0 + (n - 0) = n by omega] at hv1 hv2
  have hac := sift_ok n C 0 p hn (by omega) hw hp
  unfold chS at hac ⊢
  refine ac_of_awp (N := ⟨_, fun _ => false, fun _ _ => rfl⟩) Try.func141 rfl (by kernel_rfl) Try.ntmps141 (by simp) ?_
  simp only [argsFr, List.zipIdx_cons, List.zipIdx_nil, go_sem]
  repeat' (first | refine awp_seqK fun K hK => ?_ | (refine awp_regionK 83 rfl ?_; simp only [List.map_cons, List.map_nil]; simp (maxSteps := 1000000) (dsimp := false) (implicitDefEqProofs := false) (disch := omega) only [wrap64, go_sem]) | (refine awp_regionQK 83 (by kernel_rfl) (by kernel_rfl) (by kernel_rfl) ?_; simp only [List.map_cons, List.map_nil]; simp (maxSteps := 1000000) (dsimp := false) (implicitDefEqProofs := false) (disch := omega) only [wrap64, go_sem]) | refine awp_block ?_ | (refine awp_skip ?_; simp only [go_sem]) | (refine awp_exit ?_; simp only [go_sem]) | (refine awp_ret ?_; try simp only [go_sem]) | (refine awp_condP rfl ?_; try simp only [go_sem]) | (refine BrP.mk (fun h => ?_) (fun h => ?_) <;> try simp (dsimp := false) (disch := omega) only [wrap64]) | (refine Br.mk (fun h => ?_) (fun h => ?_) <;> try simp (dsimp := false) (disch := omega) only [wrap64]) | refine Ob.mk (by first | omega | (intro _ _; rfl) | trivial | (intros; trivial) | assumption | (intro i hi; have h0 : i = 0 := (by omega); subst h0; first | rfl | trivial) | (intro i hi; have h0 : i = 0 ∨ i = 1 := (by omega); rcases h0 with rfl | rfl <;> rfl) | (intro i hi; have h0 : i = 0 ∨ i = 1 ∨ i = 2 := (by omega); rcases h0 with rfl | rfl | rfl <;> rfl)) ?_ | ((first | ((first | refine atF (f := 171) ?_ | refine atQ (f := 171) ?_); refine cV (hfit := FitsL.refl _) (hac := hac) (ha := dv_solid _) (hpl := dv_scrub _ _) (hK := ?_))); simp (maxSteps := 1000000) (dsimp := false) (implicitDefEqProofs := false) (disch := omega) only [wrap64, go_sem]) | apply_assumption -exfalso -symm)
  all_goals (first | (show endQ _ _ _ _ _ _ _; (repeat (rename (∀ (A : Fr) (H : Hp), AWP _ _ _ _ A H → _) => hK; clear hK)); (repeat (rename (Fr → Hp → Prop) => K; clear K))) | (show Exists _; (repeat (rename (∀ (A : Fr) (H : Hp), AWP _ _ _ _ A H → _) => hK; clear hK)); (repeat (rename (Fr → Hp → Prop) => K; clear K))) | skip)
  refine end_retV' rfl rfl ?_
  congr 2
  cases e : C.has (n - 0) 0 p with
  | true => rw [decide_eq_true_eq]; have := hv2.2 e; omega
  | false =>
    rw [decide_eq_false_iff_not]
    intro e2
    have := hv2.1 (by omega)
    rw [e] at this; simp at this

theorem specIsMember_ok (n : Nat) (g : List (List Int)) (s : List Int) (hn : 1 ≤ n ∧ n ≤ 20) (hg : isGens n g) (hl : (s.length : Int) = n) (hp : isPerm s) : AC Try.prog 89 [.v (.int .i64 (n)), intss g, ints s] Hp.emp (fun _ => false) (retV (.v (.bool (gB n g s)))) := by
  have hn2 := hn.2
  have hpm : Pm n s := by have := ((isPerm_pm s).1 hp).2; rwa [show s.length = n by omega] at this
  have hgp : gensP n g := by have := gensP.of hg; simpa using this
  have hd1 : decide (isGens (n : Int) g) = true := decide_eq_true hg
  have hd2 : decide (isPerm s) = true := decide_eq_true hp
  have hb := buildChain_ok n g hn hgp hg.2.1
  refine ac_of_awp (N := ⟨_, fun _ => false, fun _ _ => rfl⟩) Try.func89 rfl (by kernel_rfl) Try.ntmps89 (by simp) ?_
  simp only [argsFr, List.zipIdx_cons, List.zipIdx_nil, go_sem]
  repeat' (first | refine awp_seqK fun K hK => ?_ | (refine awp_regionK 71 rfl ?_; simp only [List.map_cons, List.map_nil]; simp (maxSteps := 1000000) (dsimp := false) (implicitDefEqProofs := false) (disch := omega) only [wrap64, go_sem, hd1, hd2]) | (refine awp_regionQK 71 (by kernel_rfl) (by kernel_rfl) (by kernel_rfl) ?_; simp only [List.map_cons, List.map_nil]; simp (maxSteps := 1000000) (dsimp := false) (implicitDefEqProofs := false) (disch := omega) only [wrap64, go_sem, hd1, hd2]) | refine awp_block ?_ | (refine awp_skip ?_; simp only [go_sem, hd1, hd2]) | (refine awp_exit ?_; simp only [go_sem, hd1, hd2]) | (refine awp_ret ?_; try simp only [go_sem, hd1, hd2]) | (refine awp_condP rfl ?_; try simp only [go_sem, hd1, hd2]) | (refine BrP.mk (fun h => ?_) (fun h => ?_) <;> try simp (dsimp := false) (disch := omega) only [wrap64]) | (refine Br.mk (fun h => ?_) (fun h => ?_) <;> try simp (dsimp := false) (disch := omega) only [wrap64]) | refine Ob.mk (by first | omega | (intro _ _; rfl) | trivial | (intros; trivial) | assumption | (intro i hi; have h0 : i = 0 := (by omega); subst h0; first | rfl | trivial) | (intro i hi; have h0 : i = 0 ∨ i = 1 := (by omega); rcases h0 with rfl | rfl <;> rfl) | (intro i hi; have h0 : i = 0 ∨ i = 1 ∨ i = 2 := (by omega); rcases h0 with rfl | rfl | rfl <;> rfl)) ?_ | ((first | ((first | refine atF (f := 131) ?_ | refine atQ (f := 131) ?_); (first | (refine cV (hac := specIsGeneratorSet_ok n g) (hK := ?_)) | (refine cQV (hac := specIsGeneratorSet_ok n g) (hK := ?_)))) | ((first | refine atF (f := 140) ?_ | refine atQ (f := 140) ?_); (first | (refine cV (hac := specIsPermutation_ok s) (hK := ?_)) | (refine cQV (hac := specIsPermutation_ok s) (hK := ?_)))) | ((first | refine atF (f := 134) ?_ | refine atQ (f := 134) ?_); refine callNew hb (.inr rfl) hn2 rfl rfl (fun C hC => ?_)) | ((first | refine atF (f := 141) ?_ | refine atQ (f := 141) ?_); refine cV (hfit := .cons (fits_chS (le_add _ _) hn2 (fun _ => trivial)) (.cons (.refl _) .nil)) (hac := chainHas_ok n C s hn2 hC.1 hpm) (hK := ?_))); simp (maxSteps := 1000000) (dsimp := false) (implicitDefEqProofs := false) (disch := omega) only [wrap64, go_sem, hd1, hd2]) | apply_assumption -exfalso -symm)
  all_goals (first | (show endQ _ _ _ _ _ _ _; (repeat (rename (∀ (A : Fr) (H : Hp), AWP _ _ _ _ A H → _) => hK; clear hK)); (repeat (rename (Fr → Hp → Prop) => K; clear K))) | (show Exists _; (repeat (rename (∀ (A : Fr) (H : Hp), AWP _ _ _ _ A H → _) => hK; clear hK)); (repeat (rename (Fr → Hp → Prop) => K; clear K))) | skip)
  · exact end_retV' rfl rfl (by rw [gB_has hC hpm])
  · exfalso; omega

noncomputable def reachP (p : Pz) (s : List Int) : Bool := decide (isSt p s) && gB p.n.toNat p.m s
theorem reachP_yes {p : Pz} {s : List Int} (h : isSt p s) : reachP p s = gB p.n.toNat p.m s := by unfold reachP; rw [decide_eq_true h]; rfl
theorem reachP_no {p : Pz} {s : List Int} (h : ¬ isSt p s) : reachP p s = false := by unfold reachP; rw [decide_eq_false h]; rfl
theorem specIsReachable_ok (p : Pz) (s : List Int) : AC Try.prog 35 [pz p, ints s] Hp.emp (fun _ => false) (retV (.v (.bool (reachP p s)))) := by
  have hac : isSt p s → AC Try.prog 89 [.v (.int .i64 (p.n)), intss p.m, ints s] Hp.emp (fun _ => false) (retV (.v (.bool (gB p.n.toNat p.m s)))) := fun h => by
    have h1 := h.1.n
    have e : p.n = ((p.n.toNat : Nat) : Int) := by omega
    have := specIsMember_ok p.n.toNat p.m s (by omega) (by rw [← e]; exact h.1.1) (by have := (isSt_len h).1; omega) h.2.2
    rwa [← e] at this
  refine ac_of_awp (N := ⟨_, fun _ => false, fun _ _ => rfl⟩) Try.func35 rfl (by kernel_rfl) Try.ntmps35 (by simp) ?_
  simp only [argsFr, List.zipIdx_cons, List.zipIdx_nil, go_sem]
  repeat' (first | refine awp_seqK fun K hK => ?_ | (refine awp_regionK 23 rfl ?_; simp only [List.map_cons, List.map_nil]; simp (maxSteps := 1000000) (dsimp := false) (implicitDefEqProofs := false) (disch := omega) only [wrap64, go_sem]) | (refine awp_regionQK 23 (by kernel_rfl) (by kernel_rfl) (by kernel_rfl) ?_; simp only [List.map_cons, List.map_nil]; simp (maxSteps := 1000000) (dsimp := false) (implicitDefEqProofs := false) (disch := omega) only [wrap64, go_sem]) | refine awp_block ?_ | (refine awp_skip ?_; simp only [go_sem]) | (refine awp_exit ?_; simp only [go_sem]) | (refine awp_ret ?_; try simp only [go_sem]) | (refine awp_condP rfl ?_; try simp only [go_sem]) | (refine BrP.mk (fun h => ?_) (fun h => ?_) <;> try simp (dsimp := false) (disch := omega) only [wrap64]) | (refine Br.mk (fun h => ?_) (fun h => ?_) <;> try simp (dsimp := false) (disch := omega) only [wrap64]) | refine Ob.mk (by first | omega | (intro _ _; rfl) | trivial | (intros; trivial) | assumption | (intro i hi; have h0 : i = 0 := (by omega); subst h0; first | rfl | trivial) | (intro i hi; have h0 : i = 0 ∨ i = 1 := (by omega); rcases h0 with rfl | rfl <;> rfl) | (intro i hi; have h0 : i = 0 ∨ i = 1 ∨ i = 2 := (by omega); rcases h0 with rfl | rfl | rfl <;> rfl)) ?_ | ((first | ((first | refine atF (f := 88) ?_ | refine atQ (f := 88) ?_); (first | (refine cV (hac := specIsState_ok p s) (hK := ?_)) | (refine cQV (hac := specIsState_ok p s) (hK := ?_)))) | ((first | refine atF (f := 89) ?_ | refine atQ (f := 89) ?_); refine cV (hac := hac (by assumption)) (hK := ?_))); simp (maxSteps := 1000000) (dsimp := false) (implicitDefEqProofs := false) (disch := omega) only [wrap64, go_sem]) | apply_assumption -exfalso -symm)
  all_goals (first | (show endQ _ _ _ _ _ _ _; (repeat (rename (∀ (A : Fr) (H : Hp), AWP _ _ _ _ A H → _) => hK; clear hK)); (repeat (rename (Fr → Hp → Prop) => K; clear K))) | (show Exists _; (repeat (rename (∀ (A : Fr) (H : Hp), AWP _ _ _ _ A H → _) => hK; clear hK)); (repeat (rename (Fr → Hp → Prop) => K; clear K))) | skip)
  · exact end_retV' rfl rfl (by rw [reachP_yes (by assumption)])
  · exact end_retV' rfl rfl (by rw [reachP_no (by assumption)])

theorem scrub_box {d : Nat} {a b : Value} {xs : List (List Int)} (q : Nat → Bool) : Hp.scrub q (Hp.emp.upd d (.cells 3 (vecF [.v a, .v b, .list false 1 xs.length (cM ints [] xs)]))) = Hp.emp.upd d (.cells 3 (vecF [.v a, .v b, .list false 1 xs.length (cM ints [] xs)])) := by
  funext x
  unfold Hp.scrub Hp.upd
  split
  · simp only [Option.map_some, Blk.scrub, Option.some.injEq, Blk.cells.injEq, true_and]
    funext i
    match i with
    | 0 => rfl
    | 1 => rfl
    | 2 => rfl
    | i + 3 => rfl
  · rfl
theorem implIsReachable_ok (p : Pz) (s : List Int) (hs : p.s.size ≤ 140737488355328) : AC Try.prog 36 [pz p, ints s] Hp.emp (fun _ => false) (retV (.v (.bool (reachP p s)))) := by
  have hnc : isSt p s → AC Try.prog 86 [.v (.int .i64 (p.n)), intss p.m] Hp.emp (fun _ => false) (postN (kI p.n.toNat) p.n.toNat (Of p.n.toNat p.m)) := fun h => by
    have h1 := h.1.n
    have e : p.n = ((p.n.toNat : Nat) : Int) := by omega
    have := newChain_ok p.n.toNat p.m (by omega) h.1.gens h.1.1.2.1
    rw [← e] at this
    exact this
  have hn2 : isSt p s → p.n.toNat ≤ 20 := fun h => by have := h.1.1.1; omega
  have hpm : isSt p s → Pm p.n.toNat s := fun h => h.pm
  refine ac_of_awp (N := ⟨_, fun _ => false, fun _ _ => rfl⟩) Try.func36 rfl (by kernel_rfl) Try.ntmps36 (by simp) ?_
  simp only [argsFr, List.zipIdx_cons, List.zipIdx_nil, go_sem]
  repeat' (first | refine awp_seqK fun K hK => ?_ | (refine awp_regionK 23 rfl ?_; simp only [List.map_cons, List.map_nil]; simp (maxSteps := 1000000) (dsimp := false) (implicitDefEqProofs := false) (disch := omega) only [wrap64, go_sem]) | (refine awp_regionQK 23 (by kernel_rfl) (by kernel_rfl) (by kernel_rfl) ?_; simp only [List.map_cons, List.map_nil]; simp (maxSteps := 1000000) (dsimp := false) (implicitDefEqProofs := false) (disch := omega) only [wrap64, go_sem]) | refine awp_block ?_ | (refine awp_skip ?_; simp only [go_sem]) | (refine awp_exit ?_; simp only [go_sem]) | (refine awp_ret ?_; try simp only [go_sem]) | (refine awp_condP rfl ?_; try simp only [go_sem]) | (refine BrP.mk (fun h => ?_) (fun h => ?_) <;> try simp (dsimp := false) (disch := omega) only [wrap64]) | (refine Br.mk (fun h => ?_) (fun h => ?_) <;> try simp (dsimp := false) (disch := omega) only [wrap64]) | refine Ob.mk (by first | omega | (intro _ _; rfl) | trivial | (intros; trivial) | assumption | (intro i hi; have h0 : i = 0 := (by omega); subst h0; first | rfl | trivial) | (intro i hi; have h0 : i = 0 ∨ i = 1 := (by omega); rcases h0 with rfl | rfl <;> rfl) | (intro i hi; have h0 : i = 0 ∨ i = 1 ∨ i = 2 := (by omega); rcases h0 with rfl | rfl | rfl <;> rfl)) ?_ | ((first | ((first | refine atF (f := 90) ?_ | refine atQ (f := 90) ?_); (first | (refine cV (hac := implIsState_ok p s hs) (hK := ?_)) | (refine cQV (hac := implIsState_ok p s hs) (hK := ?_)))) | ((first | refine atF (f := 86) ?_ | refine atQ (f := 86) ?_); refine callNew (hnc (by assumption)) (.inl rfl) (hn2 (by assumption)) (scrub_box _) rfl (fun C hC => ?_)) | ((first | refine atF (f := 91) ?_ | refine atQ (f := 91) ?_); refine cV (hfit := .cons (fits_chI (le_add _ _) (hn2 (by assumption)) (fun _ => trivial)) (.cons (.refl _) (.cons (.refl _) .nil))) (hac := has_ok p.n.toNat C 0 s (hn2 (by assumption)) (by omega) hC.1 (hpm (by assumption))) (hK := ?_))); simp (maxSteps := 1000000) (dsimp := false) (implicitDefEqProofs := false) (disch := omega) only [wrap64, go_sem]) | apply_assumption -exfalso -symm)
  all_goals (first | (show endQ _ _ _ _ _ _ _; (repeat (rename (∀ (A : Fr) (H : Hp), AWP _ _ _ _ A H → _) => hK; clear hK)); (repeat (rename (Fr → Hp → Prop) => K; clear K))) | (show Exists _; (repeat (rename (∀ (A : Fr) (H : Hp), AWP _ _ _ _ A H → _) => hK; clear hK)); (repeat (rename (Fr → Hp → Prop) => K; clear K))) | skip)
  · exact end_retV' rfl rfl (by rw [reachP_yes (by assumption), gB_has hC (hpm (by assumption))])
  · exact end_retV' rfl rfl (by rw [reachP_no (by assumption)])
end Go.Proofs.Ytdllbnchcjgcdaa
end
/- StateCount: both texts multiply the sizes of the orbits. -/
section
namespace Go.Proofs.Ytdllbnchcjgcdaa
open Go.Av
set_option linter.unusedSimpArgs false
set_option linter.unusedVariables false
attribute [local irreducible] AWP CallG Ob Br BrP Go.Av.Sub endQ AOps OpV AC thenA blkA opsVC opVC withA withArgs opsQ opQ CallQ withA2 withArgs2
open Go.Pm (Pm comp invp idn img Ch fixB fact)

/-- The product of the first m orbit sizes. -/
def prO (n : Nat) (C : Ch) : Nat → Nat
  | 0 => 1
  | m + 1 => prO n C m * C.cnt n m
theorem prO_ord (n : Nat) (C : Ch) : ∀ k m, m + k = n → prO n C m * C.ord n k m = prO n C n
  | 0, m, h => by obtain rfl : m = n := by omega
                  simp [Ch.ord]
  | k + 1, m, h => by
    have := prO_ord n C k (m + 1) (by omega)
    rw [← this]
    simp [Ch.ord, prO, Nat.mul_assoc]
theorem cnt_pos {n : Nat} {C : Ch} (w : C.WF n) {i : Nat} (hi : i < n) : 1 ≤ C.cnt n i := by
  unfold Ch.cnt
  refine List.countP_pos_iff.2 ⟨i, by simpa using hi, ?_⟩
  rw [w.t0 i hi]; rfl
theorem ord_pos {n : Nat} {C : Ch} (w : C.WF n) : ∀ k m, m + k = n → 1 ≤ C.ord n k m
  | 0, _, _ => by simp [Ch.ord]
  | k + 1, m, h => Nat.mul_pos (cnt_pos w (by omega)) (ord_pos w k (m + 1) (by omega))
theorem prO_n (n : Nat) (C : Ch) : prO n C n = C.ord n n 0 := by
  have := prO_ord n C n 0 (by omega)
  simpa [prO] using this.symm
theorem prO_le {n : Nat} {C : Ch} (w : C.WF n) (hn : n ≤ 20) {m : Nat} (hm : m ≤ n) : prO n C m ≤ 2432902008176640000 := by
  have h1 := prO_ord n C (n - m) m (by omega)
  have h2 := ord_pos w (n - m) m (by omega)
  have h3 := Ch.ord_le w n 0 (by omega)
  have h4 := Go.Pm.fact_mono hn
  rw [Go.Pm.fact_20] at h4
  rw [prO_n] at h1
  have h5 : prO n C m * 1 ≤ prO n C m * C.ord n (n - m) m := Nat.mul_le_mul_left _ h2
  omega
theorem orb_cnt (n : Nat) (C : Ch) (i : Nat) : (orb (C.T i) n).length = C.cnt n i := by
  unfold orb Ch.cnt
  rw [List.length_map, List.countP_eq_length_filter]
theorem order_ok (n : Nat) (C : Ch) (hn : n ≤ 20) (hw : C.WF n) : AC Try.prog 87 [chI n C, .v (.int .i64 (0))] Hp.emp (fun _ => false) (retV (.v (.int .i64 (prO n C n)))) := by
  unfold chI
  refine ac_of_awp (N := ⟨_, fun _ => false, fun _ _ => rfl⟩) Try.func87 rfl (by kernel_rfl) Try.ntmps87 (by simp) ?_
  simp only [argsFr, List.zipIdx_cons, List.zipIdx_nil, go_sem]
  repeat' (first | refine awp_seqK fun K hK => ?_ | (refine awp_regionK 8307 rfl ?_; simp only [List.map_cons, List.map_nil]; simp (maxSteps := 1000000) (dsimp := false) (implicitDefEqProofs := false) (disch := omega) only [wrap64, go_sem]) | (refine awp_regionQK 8307 (by kernel_rfl) (by kernel_rfl) (by kernel_rfl) ?_; simp only [List.map_cons, List.map_nil]; simp (maxSteps := 1000000) (dsimp := false) (implicitDefEqProofs := false) (disch := omega) only [wrap64, go_sem]) | refine awp_block ?_ | (refine awp_skip ?_; simp only [go_sem]) | (refine awp_exit ?_; simp only [go_sem]) | (refine awp_ret ?_; try simp only [go_sem]) | (refine awp_condP rfl ?_; try simp only [go_sem]) | (refine BrP.mk (fun h => ?_) (fun h => ?_) <;> try simp (dsimp := false) (disch := omega) only [wrap64]) | (refine Br.mk (fun h => ?_) (fun h => ?_) <;> try simp (dsimp := false) (disch := omega) only [wrap64]) | refine Ob.mk (by first | omega | (intro _ _; rfl) | trivial | (intros; trivial) | assumption | (intro i hi; have h0 : i = 0 := (by omega); subst h0; first | rfl | trivial) | (intro i hi; have h0 : i = 0 ∨ i = 1 := (by omega); rcases h0 with rfl | rfl <;> rfl) | (intro i hi; have h0 : i = 0 ∨ i = 1 ∨ i = 2 := (by omega); rcases h0 with rfl | rfl | rfl <;> rfl)) ?_ | apply_assumption -exfalso -symm)
  all_goals (first | (show endQ _ _ _ _ _ _ _; (repeat (rename (∀ (A : Fr) (H : Hp), AWP _ _ _ _ A H → _) => hK; clear hK)); (repeat (rename (Fr → Hp → Prop) => K; clear K))) | (show Exists _; (repeat (rename (∀ (A : Fr) (H : Hp), AWP _ _ _ _ A H → _) => hK; clear hK)); (repeat (rename (Fr → Hp → Prop) => K; clear K))) | skip)
  refine awp_loop (ι := Nat) (fun k => [(6, .v (.int .i64 (k))), (5, .v (.int .i64 (prO n C k))), (0, chI n C)]) (fun k => Hp.emp) (fun k => k ≤ n) (fun k => n - k) 0 (Nat.zero_le _) (Sub.toL (by simp only [go_sem] <;> first | trivial | (simp only [Option.some.injEq, AV.v.injEq, AV.own.injEq, AV.list.injEq, Value.int.injEq, Value.bool.injEq, true_and, and_true]; first | omega | (simp [chI, prO]; done)) | (simp [chI, prO]; done) | (simp [chI, prO]; omega)) (Hp.le_emp _)) ?_
  intro k hk
  unfold chI
  have hT : ∀ y t, y < n → C.T k y = some t → k < n → 0 < t.length := fun y t _ ht hkn => by have := (hw.t1 k y t hkn ht).1.1; omega
  have hc := orb_cnt n C k
  have hp1 := prO_le hw hn hk
  have hp2 := fun h : k + 1 ≤ n => prO_le hw hn h
  have hp3 : prO n C (k + 1) = prO n C k * C.cnt n k := rfl
  repeat' (first | refine awp_seqK fun K hK => ?_ | (refine awp_regionK 8307 rfl ?_; simp only [List.map_cons, List.map_nil]; simp (maxSteps := 1000000) (dsimp := false) (implicitDefEqProofs := false) (disch := omega) only [wrap64, go_sem, rowF_app]) | (refine awp_regionQK 8307 (by kernel_rfl) (by kernel_rfl) (by kernel_rfl) ?_; simp only [List.map_cons, List.map_nil]; simp (maxSteps := 1000000) (dsimp := false) (implicitDefEqProofs := false) (disch := omega) only [wrap64, go_sem, rowF_app]) | refine awp_block ?_ | (refine awp_skip ?_; simp only [go_sem, rowF_app]) | (refine awp_exit ?_; simp only [go_sem, rowF_app]) | (refine awp_ret ?_; try simp only [go_sem, rowF_app]) | (refine awp_condP rfl ?_; try simp only [go_sem, rowF_app]) | (refine BrP.mk (fun h => ?_) (fun h => ?_) <;> try simp (dsimp := false) (disch := omega) only [wrap64]) | (refine Br.mk (fun h => ?_) (fun h => ?_) <;> try simp (dsimp := false) (disch := omega) only [wrap64]) | refine Ob.mk (by first | omega | (intro _ _; rfl) | trivial | (intros; trivial) | assumption | (intro i hi; have h0 : i = 0 := (by omega); subst h0; first | rfl | trivial) | (intro i hi; have h0 : i = 0 ∨ i = 1 := (by omega); rcases h0 with rfl | rfl <;> rfl) | (intro i hi; have h0 : i = 0 ∨ i = 1 ∨ i = 2 := (by omega); rcases h0 with rfl | rfl | rfl <;> rfl)) ?_ | ((first | ((first | refine atF (f := 138) ?_ | refine atQ (f := 138) ?_); (first | (refine cFI (hac := orbitOf_ok n (C.T k) hn (fun y t h1 h2 => hT y t h1 h2 (by omega)) 31) (hK := ?_)) | (refine cQI (hac := orbitOf_ok n (C.T k) hn (fun y t h1 h2 => hT y t h1 h2 (by omega)) 31) (hK := ?_)))) | ((first | refine atF (f := 113) ?_ | refine atQ (f := 113) ?_); (first | (refine cV (hac := length_ok (orb (C.T k) n)) (hK := ?_)) | (refine cQV (hac := length_ok (orb (C.T k) n)) (hK := ?_))))); simp (maxSteps := 1000000) (dsimp := false) (implicitDefEqProofs := false) (disch := omega) only [wrap64, go_sem, rowF_app]) | apply_assumption -exfalso -symm)
  all_goals (first | (show endQ _ _ _ _ _ _ _; (repeat (rename (∀ (A : Fr) (H : Hp), AWP _ _ _ _ A H → _) => hK; clear hK)); (repeat (rename (Fr → Hp → Prop) => K; clear K))) | (show Exists _; (repeat (rename (∀ (A : Fr) (H : Hp), AWP _ _ _ _ A H → _) => hK; clear hK)); (repeat (rename (Fr → Hp → Prop) => K; clear K))) | skip)
  · have hb := hp2 (by omega)
    have hw64 : IntKind.i64.wrap (((prO n C k : Nat) : Int) * (((orb (C.T k) n).length : Nat) : Int)) = ((prO n C (k + 1) : Nat) : Int) := by
      rw [hc, ← Int.natCast_mul, ← hp3]; exact wrap64 (by omega)
    rw [hw64]
    exact ⟨k + 1, by omega, by omega, Sub.toL (by simp only [go_sem] <;> first | trivial | (simp only [Option.some.injEq, AV.v.injEq, AV.own.injEq, AV.list.injEq, Value.int.injEq, Value.bool.injEq, true_and, and_true]; first | omega | (simp; done)) | (simp; done) | (simp; omega)) (Hp.le_refl _)⟩
  · have e : k = n := by omega
    subst e
    exact end_retV rfl rfl
theorem boolToInt_ok (b : Bool) : AC Try.prog 178 [.v (.bool (b))] Hp.emp (fun _ => false) (retV (.v (.int .i64 (if b then 1 else 0)))) := by
  refine ac_of_awp (N := ⟨_, fun _ => false, fun _ _ => rfl⟩) Try.func178 rfl (by kernel_rfl) Try.ntmps178 (by simp) ?_
  simp only [argsFr, List.zipIdx_cons, List.zipIdx_nil, go_sem]
  repeat' (first | refine awp_seqK fun K hK => ?_ | (refine awp_regionK 13 rfl ?_; simp only [List.map_cons, List.map_nil]; simp (maxSteps := 1000000) (dsimp := false) (implicitDefEqProofs := false) (disch := omega) only [wrap64, go_sem]) | (refine awp_regionQK 13 (by kernel_rfl) (by kernel_rfl) (by kernel_rfl) ?_; simp only [List.map_cons, List.map_nil]; simp (maxSteps := 1000000) (dsimp := false) (implicitDefEqProofs := false) (disch := omega) only [wrap64, go_sem]) | refine awp_block ?_ | (refine awp_skip ?_; simp only [go_sem]) | (refine awp_exit ?_; simp only [go_sem]) | (refine awp_ret ?_; try simp only [go_sem]) | (refine awp_condP rfl ?_; try simp only [go_sem]) | (refine BrP.mk (fun h => ?_) (fun h => ?_) <;> try simp (dsimp := false) (disch := omega) only [wrap64]) | (refine Br.mk (fun h => ?_) (fun h => ?_) <;> try simp (dsimp := false) (disch := omega) only [wrap64]) | refine Ob.mk (by first | omega | (intro _ _; rfl) | trivial | (intros; trivial) | assumption | (intro i hi; have h0 : i = 0 := (by omega); subst h0; first | rfl | trivial) | (intro i hi; have h0 : i = 0 ∨ i = 1 := (by omega); rcases h0 with rfl | rfl <;> rfl) | (intro i hi; have h0 : i = 0 ∨ i = 1 ∨ i = 2 := (by omega); rcases h0 with rfl | rfl | rfl <;> rfl)) ?_ | apply_assumption -exfalso -symm)
  all_goals (first | (show endQ _ _ _ _ _ _ _; (repeat (rename (∀ (A : Fr) (H : Hp), AWP _ _ _ _ A H → _) => hK; clear hK)); (repeat (rename (Fr → Hp → Prop) => K; clear K))) | (show Exists _; (repeat (rename (∀ (A : Fr) (H : Hp), AWP _ _ _ _ A H → _) => hK; clear hK)); (repeat (rename (Fr → Hp → Prop) => K; clear K))) | skip)
  all_goals exact end_retV' rfl rfl (by simp [*])
/-- The orbit sizes of the first m levels. -/
def szO (n : Nat) (C : Ch) (m : Nat) : List Int := (List.range m).map fun i : Nat => ((C.cnt n i : Nat) : Int)
theorem szO_length (n : Nat) (C : Ch) (m : Nat) : (szO n C m).length = m := by simp [szO]
theorem szO_succ (n : Nat) (C : Ch) (m : Nat) : szO n C (m + 1) = szO n C m ++ [((C.cnt n m : Nat) : Int)] := by simp [szO, List.range_succ]
theorem szO_get (n : Nat) (C : Ch) {m i : Nat} (h : i < m) : (szO n C m).getD i 0 = ((C.cnt n i : Nat) : Int) := by simp [szO, List.getD_eq_getElem?_getD, h]
/-- How many of the first y points are in the orbit of level i. -/
def cnU (C : Ch) (i y : Nat) : Nat := (List.range y).countP fun z => (C.T i z).isSome
theorem cnU_succ (C : Ch) (i y : Nat) : cnU C i (y + 1) = cnU C i y + if (C.T i y).isSome then 1 else 0 := by
  unfold cnU
  rw [List.range_succ, List.countP_append]
  simp [List.countP_cons]
theorem cnU_le (C : Ch) (i y : Nat) : cnU C i y ≤ y := by
  unfold cnU; exact Nat.le_trans List.countP_le_length (by simp)
theorem orbitSizes_ok (n : Nat) (C : Ch) (hn : n ≤ 20) (hw : C.WF n) (d : Nat) : AC Try.prog 165 [chS n C] Hp.emp (fun _ => false) (retI d (szO n C n)) := by
  unfold chS
  refine ac_of_awp (N := ⟨_, fun _ => false, fun _ _ => rfl⟩) Try.func165 rfl (by kernel_rfl) Try.ntmps165 (by simp) ?_
  simp only [argsFr, List.zipIdx_cons, List.zipIdx_nil, go_sem]
  repeat' (first | refine awp_seqK fun K hK => ?_ | (refine awp_regionK 2105469 rfl ?_; simp only [List.map_cons, List.map_nil]; simp (maxSteps := 1000000) (dsimp := false) (implicitDefEqProofs := false) (disch := omega) only [wrap64, go_sem]) | (refine awp_regionQK 2105469 (by kernel_rfl) (by kernel_rfl) (by kernel_rfl) ?_; simp only [List.map_cons, List.map_nil]; simp (maxSteps := 1000000) (dsimp := false) (implicitDefEqProofs := false) (disch := omega) only [wrap64, go_sem]) | refine awp_block ?_ | (refine awp_skip ?_; simp only [go_sem]) | (refine awp_exit ?_; simp only [go_sem]) | (refine awp_ret ?_; try simp only [go_sem]) | (refine awp_condP rfl ?_; try simp only [go_sem]) | (refine BrP.mk (fun h => ?_) (fun h => ?_) <;> try simp (dsimp := false) (disch := omega) only [wrap64]) | (refine Br.mk (fun h => ?_) (fun h => ?_) <;> try simp (dsimp := false) (disch := omega) only [wrap64]) | refine Ob.mk (by first | omega | (intro _ _; rfl) | trivial | (intros; trivial) | assumption | (intro i hi; have h0 : i = 0 := (by omega); subst h0; first | rfl | trivial) | (intro i hi; have h0 : i = 0 ∨ i = 1 := (by omega); rcases h0 with rfl | rfl <;> rfl) | (intro i hi; have h0 : i = 0 ∨ i = 1 ∨ i = 2 := (by omega); rcases h0 with rfl | rfl | rfl <;> rfl)) ?_ | apply_assumption -exfalso -symm)
  all_goals (first | (show endQ _ _ _ _ _ _ _; (repeat (rename (∀ (A : Fr) (H : Hp), AWP _ _ _ _ A H → _) => hK; clear hK)); (repeat (rename (Fr → Hp → Prop) => K; clear K))) | (show Exists _; (repeat (rename (∀ (A : Fr) (H : Hp), AWP _ _ _ _ A H → _) => hK; clear hK)); (repeat (rename (Fr → Hp → Prop) => K; clear K))) | skip)
  refine awp_loop (ι := Nat) (fun i => [(4, .v (.int .i64 (i))), (3, .own 7 0 1 (szO n C i).length), (0, chS n C)]) (fun i => Hp.emp.upd 7 (.cells (szO n C i).length (cM iv 0 (szO n C i)))) (fun i => i ≤ n) (fun i => n - i) 0 ?_ (Sub.toL (by simp only [go_sem] <;> first | trivial | (simp only [Option.some.injEq, AV.v.injEq, AV.own.injEq, AV.list.injEq, Value.int.injEq, Value.bool.injEq, true_and, and_true]; first | omega | (simp [szO, chS]; done)) | (simp [szO, chS]; done) | (simp [szO, chS]; omega)) (by (repeat' (first | exact Hp.le_emp _ | exact Hp.le_refl _ | refine Hp.le_upd ?_ ?_)); all_goals (first | rfl | (simp only [go_sem]; first | rfl | (refine cellsE ?_ ?_ <;> (simp [szO, chS])) | (simp [szO, chS]))))) ?_
  · exact Nat.zero_le _
  intro i hi
  unfold chS
  have hsl := szO_length n C i
  have hss := szO_succ n C i
  have hi2 : i < n → ((i : Nat) : Int) < n := fun h => by omega
  repeat' (first | refine awp_seqK fun K hK => ?_ | (refine awp_regionK 2105469 rfl ?_; simp only [List.map_cons, List.map_nil]; simp (maxSteps := 1000000) (dsimp := false) (implicitDefEqProofs := false) (disch := omega) only [wrap64, go_sem]) | (refine awp_regionQK 2105469 (by kernel_rfl) (by kernel_rfl) (by kernel_rfl) ?_; simp only [List.map_cons, List.map_nil]; simp (maxSteps := 1000000) (dsimp := false) (implicitDefEqProofs := false) (disch := omega) only [wrap64, go_sem]) | refine awp_block ?_ | (refine awp_skip ?_; simp only [go_sem]) | (refine awp_exit ?_; simp only [go_sem]) | (refine awp_ret ?_; try simp only [go_sem]) | (refine awp_condP rfl ?_; try simp only [go_sem]) | (refine BrP.mk (fun h => ?_) (fun h => ?_) <;> try simp (dsimp := false) (disch := omega) only [wrap64]) | (refine Br.mk (fun h => ?_) (fun h => ?_) <;> try simp (dsimp := false) (disch := omega) only [wrap64]) | refine Ob.mk (by first | omega | (intro _ _; rfl) | trivial | (intros; trivial) | assumption | (intro i hi; have h0 : i = 0 := (by omega); subst h0; first | rfl | trivial) | (intro i hi; have h0 : i = 0 ∨ i = 1 := (by omega); rcases h0 with rfl | rfl <;> rfl) | (intro i hi; have h0 : i = 0 ∨ i = 1 ∨ i = 2 := (by omega); rcases h0 with rfl | rfl | rfl <;> rfl)) ?_ | apply_assumption -exfalso -symm)
  all_goals (first | (show endQ _ _ _ _ _ _ _; (repeat (rename (∀ (A : Fr) (H : Hp), AWP _ _ _ _ A H → _) => hK; clear hK)); (repeat (rename (Fr → Hp → Prop) => K; clear K))) | (show Exists _; (repeat (rename (∀ (A : Fr) (H : Hp), AWP _ _ _ _ A H → _) => hK; clear hK)); (repeat (rename (Fr → Hp → Prop) => K; clear K))) | skip)
  · refine awp_loop (ι := Nat) (fun y => [(6, .v (.int .i64 (y))), (5, .v (.int .i64 (cnU C i y))), (4, .v (.int .i64 (i))), (3, .own 7 0 1 (szO n C i).length), (0, chS n C)]) (fun y => Hp.emp.upd 7 (.cells (szO n C i).length (cM iv 0 (szO n C i)))) (fun y => y ≤ n) (fun y => n - y) 0 ?_ (Sub.toL (by simp only [go_sem] <;> first | trivial | (simp only [Option.some.injEq, AV.v.injEq, AV.own.injEq, AV.list.injEq, Value.int.injEq, Value.bool.injEq, true_and, and_true]; first | omega | (simp [cnU, chS]; done)) | (simp [cnU, chS]; done) | (simp [cnU, chS]; omega)) (by (repeat' (first | exact Hp.le_emp _ | exact Hp.le_refl _ | refine Hp.le_upd ?_ ?_)); all_goals (first | rfl | (simp only [go_sem]; first | rfl | (refine cellsE ?_ ?_ <;> (simp [cnU, chS])) | (simp [cnU, chS]))))) ?_
    · exact Nat.zero_le _
    intro y hy
    unfold chS
    have hcl := cnU_le C i y
    have hcs := cnU_succ C i y
    have hrow : ¬ y < n → cnU C i y = C.cnt n i := fun h => by rw [show y = n by omega]; rfl
    cases hT : C.T i y with
    | none =>
      have hTF := tF_none hT
      rw [hT] at hcs
      simp only [Option.isSome_none, Bool.false_eq_true, if_false, Nat.add_zero] at hcs
      repeat' (first | refine awp_seqK fun K hK => ?_ | (refine awp_regionK 2105469 rfl ?_; simp only [List.map_cons, List.map_nil]; simp (maxSteps := 1000000) (dsimp := false) (implicitDefEqProofs := false) (disch := omega) only [wrap64, go_sem, rowF_app, hTF]) | (refine awp_regionQK 2105469 (by kernel_rfl) (by kernel_rfl) (by kernel_rfl) ?_; simp only [List.map_cons, List.map_nil]; simp (maxSteps := 1000000) (dsimp := false) (implicitDefEqProofs := false) (disch := omega) only [wrap64, go_sem, rowF_app, hTF]) | refine awp_block ?_ | (refine awp_skip ?_; simp only [go_sem, rowF_app, hTF]) | (refine awp_exit ?_; simp only [go_sem, rowF_app, hTF]) | (refine awp_ret ?_; try simp only [go_sem, rowF_app, hTF]) | (refine awp_condP rfl ?_; try simp only [go_sem, rowF_app, hTF]) | (refine BrP.mk (fun h => ?_) (fun h => ?_) <;> try simp (dsimp := false) (disch := omega) only [wrap64]) | (refine Br.mk (fun h => ?_) (fun h => ?_) <;> try simp (dsimp := false) (disch := omega) only [wrap64]) | refine Ob.mk (by first | omega | (intro _ _; rfl) | trivial | (intros; trivial) | assumption | (intro i hi; have h0 : i = 0 := (by omega); subst h0; first | rfl | trivial) | (intro i hi; have h0 : i = 0 ∨ i = 1 := (by omega); rcases h0 with rfl | rfl <;> rfl) | (intro i hi; have h0 : i = 0 ∨ i = 1 ∨ i = 2 := (by omega); rcases h0 with rfl | rfl | rfl <;> rfl)) ?_ | ((first | ((first | refine atF (f := 178) ?_ | refine atQ (f := 178) ?_); (first | (refine cV (hac := boolToInt_ok _) (hK := ?_)) | (refine cQV (hac := boolToInt_ok _) (hK := ?_))))); simp (maxSteps := 1000000) (dsimp := false) (implicitDefEqProofs := false) (disch := omega) only [wrap64, go_sem, rowF_app, hTF]) | apply_assumption -exfalso -symm)
      all_goals (first | (show endQ _ _ _ _ _ _ _; (repeat (rename (∀ (A : Fr) (H : Hp), AWP _ _ _ _ A H → _) => hK; clear hK)); (repeat (rename (Fr → Hp → Prop) => K; clear K))) | (show Exists _; (repeat (rename (∀ (A : Fr) (H : Hp), AWP _ _ _ _ A H → _) => hK; clear hK)); (repeat (rename (Fr → Hp → Prop) => K; clear K))) | skip)
      · refine ⟨y + 1, by omega, by omega, ?_⟩
        rw [hcs]
        exact Sub.toL (by simp only [go_sem] <;> first | trivial | (simp only [Option.some.injEq, AV.v.injEq, AV.own.injEq, AV.list.injEq, Value.int.injEq, Value.bool.injEq, true_and, and_true]; first | omega | (simp; done)) | (simp; done) | (simp; omega)) (Hp.le_refl _)
      · rw [hrow (by omega), ← hss]
        refine ⟨i + 1, by omega, by omega, ?_⟩
        have e : (szO n C (i + 1)).length = (szO n C i).length + 1 := by rw [hss]; simp
        rw [e]
        exact Sub.toL (by simp only [go_sem] <;> first | trivial | (simp only [Option.some.injEq, AV.v.injEq, AV.own.injEq, AV.list.injEq, Value.int.injEq, Value.bool.injEq, true_and, and_true]; first | omega | (simp; done)) | (simp; done) | (simp; omega)) (Hp.le_upd rfl (Hp.le_emp _))
    | some t =>
      have hTF := tF_some hT
      rw [hT] at hcs
      simp only [Option.isSome_some, if_true] at hcs
      have htl : i < n → 0 < t.length := fun h => by have := (hw.t1 i y t h hT).1.1; omega
      have hd : i < n → decide ((0 : Int) < (t.length : Int)) = true := fun h => decide_eq_true (by have := htl h; omega)
      repeat' (first | refine awp_seqK fun K hK => ?_ | (refine awp_regionK 2105469 rfl ?_; simp only [List.map_cons, List.map_nil]; simp (maxSteps := 1000000) (dsimp := false) (implicitDefEqProofs := false) (disch := omega) only [wrap64, go_sem, rowF_app, hTF]) | (refine awp_regionQK 2105469 (by kernel_rfl) (by kernel_rfl) (by kernel_rfl) ?_; simp only [List.map_cons, List.map_nil]; simp (maxSteps := 1000000) (dsimp := false) (implicitDefEqProofs := false) (disch := omega) only [wrap64, go_sem, rowF_app, hTF]) | refine awp_block ?_ | (refine awp_skip ?_; simp only [go_sem, rowF_app, hTF]) | (refine awp_exit ?_; simp only [go_sem, rowF_app, hTF]) | (refine awp_ret ?_; try simp only [go_sem, rowF_app, hTF]) | (refine awp_condP rfl ?_; try simp only [go_sem, rowF_app, hTF]) | (refine BrP.mk (fun h => ?_) (fun h => ?_) <;> try simp (dsimp := false) (disch := omega) only [wrap64]) | (refine Br.mk (fun h => ?_) (fun h => ?_) <;> try simp (dsimp := false) (disch := omega) only [wrap64]) | refine Ob.mk (by first | omega | (intro _ _; rfl) | trivial | (intros; trivial) | assumption | (intro i hi; have h0 : i = 0 := (by omega); subst h0; first | rfl | trivial) | (intro i hi; have h0 : i = 0 ∨ i = 1 := (by omega); rcases h0 with rfl | rfl <;> rfl) | (intro i hi; have h0 : i = 0 ∨ i = 1 ∨ i = 2 := (by omega); rcases h0 with rfl | rfl | rfl <;> rfl)) ?_ | ((first | ((first | refine atF (f := 178) ?_ | refine atQ (f := 178) ?_); (first | (refine cV (hac := boolToInt_ok _) (hK := ?_)) | (refine cQV (hac := boolToInt_ok _) (hK := ?_))))); simp (maxSteps := 1000000) (dsimp := false) (implicitDefEqProofs := false) (disch := omega) only [wrap64, go_sem, rowF_app, hTF]) | apply_assumption -exfalso -symm)
      all_goals (first | (show endQ _ _ _ _ _ _ _; (repeat (rename (∀ (A : Fr) (H : Hp), AWP _ _ _ _ A H → _) => hK; clear hK)); (repeat (rename (Fr → Hp → Prop) => K; clear K))) | (show Exists _; (repeat (rename (∀ (A : Fr) (H : Hp), AWP _ _ _ _ A H → _) => hK; clear hK)); (repeat (rename (Fr → Hp → Prop) => K; clear K))) | skip)
      · refine ⟨y + 1, by omega, by omega, ?_⟩
        rw [hcs, hd (by omega)]
        exact Sub.toL (by simp only [go_sem] <;> first | trivial | (simp only [Option.some.injEq, AV.v.injEq, AV.own.injEq, AV.list.injEq, Value.int.injEq, Value.bool.injEq, true_and, and_true]; first | omega | (simp; done)) | (simp; done) | (simp; omega)) (Hp.le_refl _)
      · rw [hrow (by omega), ← hss]
        refine ⟨i + 1, by omega, by omega, ?_⟩
        have e : (szO n C (i + 1)).length = (szO n C i).length + 1 := by rw [hss]; simp
        rw [e]
        exact Sub.toL (by simp only [go_sem] <;> first | trivial | (simp only [Option.some.injEq, AV.v.injEq, AV.own.injEq, AV.list.injEq, Value.int.injEq, Value.bool.injEq, true_and, and_true]; first | omega | (simp; done)) | (simp; done) | (simp; omega)) (Hp.le_upd rfl (Hp.le_emp _))
  · have e : i = n := by omega
    subst e
    exact end_retI' rfl rfl rfl rfl rfl rfl
theorem chainOrder_ok (n : Nat) (C : Ch) (hn : n ≤ 20) (hw : C.WF n) : AC Try.prog 133 [chS n C] Hp.emp (fun _ => false) (retV (.v (.int .i64 (prO n C n)))) := by
  have hac := orbitSizes_ok n C hn hw 9
  unfold chS at hac ⊢
  have hsl := szO_length n C n
  refine ac_of_awp (N := ⟨_, fun _ => false, fun _ _ => rfl⟩) Try.func133 rfl (by kernel_rfl) Try.ntmps133 (by simp) ?_
  simp only [argsFr, List.zipIdx_cons, List.zipIdx_nil, go_sem]
  repeat' (first | refine awp_seqK fun K hK => ?_ | (refine awp_regionK 2109 rfl ?_; simp only [List.map_cons, List.map_nil]; simp (maxSteps := 1000000) (dsimp := false) (implicitDefEqProofs := false) (disch := omega) only [wrap64, go_sem]) | (refine awp_regionQK 2109 (by kernel_rfl) (by kernel_rfl) (by kernel_rfl) ?_; simp only [List.map_cons, List.map_nil]; simp (maxSteps := 1000000) (dsimp := false) (implicitDefEqProofs := false) (disch := omega) only [wrap64, go_sem]) | refine awp_block ?_ | (refine awp_skip ?_; simp only [go_sem]) | (refine awp_exit ?_; simp only [go_sem]) | (refine awp_ret ?_; try simp only [go_sem]) | (refine awp_condP rfl ?_; try simp only [go_sem]) | (refine BrP.mk (fun h => ?_) (fun h => ?_) <;> try simp (dsimp := false) (disch := omega) only [wrap64]) | (refine Br.mk (fun h => ?_) (fun h => ?_) <;> try simp (dsimp := false) (disch := omega) only [wrap64]) | refine Ob.mk (by first | omega | (intro _ _; rfl) | trivial | (intros; trivial) | assumption | (intro i hi; have h0 : i = 0 := (by omega); subst h0; first | rfl | trivial) | (intro i hi; have h0 : i = 0 ∨ i = 1 := (by omega); rcases h0 with rfl | rfl <;> rfl) | (intro i hi; have h0 : i = 0 ∨ i = 1 ∨ i = 2 := (by omega); rcases h0 with rfl | rfl | rfl <;> rfl)) ?_ | ((first | (refine cFI (hac := hac) (hK := ?_)) | (refine cQI (hac := hac) (hK := ?_))); simp (maxSteps := 1000000) (dsimp := false) (implicitDefEqProofs := false) (disch := omega) only [wrap64, go_sem]) | apply_assumption -exfalso -symm)
  all_goals (first | (show endQ _ _ _ _ _ _ _; (repeat (rename (∀ (A : Fr) (H : Hp), AWP _ _ _ _ A H → _) => hK; clear hK)); (repeat (rename (Fr → Hp → Prop) => K; clear K))) | (show Exists _; (repeat (rename (∀ (A : Fr) (H : Hp), AWP _ _ _ _ A H → _) => hK; clear hK)); (repeat (rename (Fr → Hp → Prop) => K; clear K))) | skip)
  refine awp_loop (ι := Nat) (fun k => [(5, .v (.int .i64 (k))), (4, .list false 1 (szO n C n).length (cM iv 0 (szO n C n))), (3, .v (.int .i64 (prO n C k)))]) (fun k => Hp.emp) (fun k => k ≤ n) (fun k => n - k) 0 (Nat.zero_le _) (Sub.toL (by simp only [go_sem] <;> first | trivial | (simp only [Option.some.injEq, AV.v.injEq, AV.own.injEq, AV.list.injEq, Value.int.injEq, Value.bool.injEq, true_and, and_true]; first | omega | (simp [prO]; done)) | (simp [prO]; done) | (simp [prO]; omega)) (Hp.le_emp _)) ?_
  intro k hk
  have hp2 := fun h : k + 1 ≤ n => prO_le hw hn h
  have hp3 : prO n C (k + 1) = prO n C k * C.cnt n k := rfl
  have hg : k < n → (szO n C n).getD k 0 = ((C.cnt n k : Nat) : Int) := fun h => szO_get n C h
  have hw64 : k < n → IntKind.i64.wrap (((prO n C k : Nat) : Int) * (szO n C n).getD k 0) = ((prO n C (k + 1) : Nat) : Int) := fun h => by
    rw [hg h, ← Int.natCast_mul, ← hp3]
    have := hp2 (by omega)
    exact wrap64 (by omega)
  repeat' (first | refine awp_seqK fun K hK => ?_ | (refine awp_regionK 2109 rfl ?_; simp only [List.map_cons, List.map_nil]; simp (maxSteps := 1000000) (dsimp := false) (implicitDefEqProofs := false) (disch := omega) only [wrap64, go_sem, hw64]) | (refine awp_regionQK 2109 (by kernel_rfl) (by kernel_rfl) (by kernel_rfl) ?_; simp only [List.map_cons, List.map_nil]; simp (maxSteps := 1000000) (dsimp := false) (implicitDefEqProofs := false) (disch := omega) only [wrap64, go_sem, hw64]) | refine awp_block ?_ | (refine awp_skip ?_; simp only [go_sem, hw64]) | (refine awp_exit ?_; simp only [go_sem, hw64]) | (refine awp_ret ?_; try simp only [go_sem, hw64]) | (refine awp_condP rfl ?_; try simp only [go_sem, hw64]) | (refine BrP.mk (fun h => ?_) (fun h => ?_) <;> try simp (dsimp := false) (disch := omega) only [wrap64]) | (refine Br.mk (fun h => ?_) (fun h => ?_) <;> try simp (dsimp := false) (disch := omega) only [wrap64]) | refine Ob.mk (by first | omega | (intro _ _; rfl) | trivial | (intros; trivial) | assumption | (intro i hi; have h0 : i = 0 := (by omega); subst h0; first | rfl | trivial) | (intro i hi; have h0 : i = 0 ∨ i = 1 := (by omega); rcases h0 with rfl | rfl <;> rfl) | (intro i hi; have h0 : i = 0 ∨ i = 1 ∨ i = 2 := (by omega); rcases h0 with rfl | rfl | rfl <;> rfl)) ?_ | apply_assumption -exfalso -symm)
  all_goals (first | (show endQ _ _ _ _ _ _ _; (repeat (rename (∀ (A : Fr) (H : Hp), AWP _ _ _ _ A H → _) => hK; clear hK)); (repeat (rename (Fr → Hp → Prop) => K; clear K))) | (show Exists _; (repeat (rename (∀ (A : Fr) (H : Hp), AWP _ _ _ _ A H → _) => hK; clear hK)); (repeat (rename (Fr → Hp → Prop) => K; clear K))) | skip)
  · exact ⟨k + 1, by omega, by omega, Sub.toL (by simp only [go_sem] <;> first | trivial | (simp only [Option.some.injEq, AV.v.injEq, AV.own.injEq, AV.list.injEq, Value.int.injEq, Value.bool.injEq, true_and, and_true]; first | omega | (simp; done)) | (simp; done) | (simp; omega)) (Hp.le_refl _)⟩
  · have e : k = n := by omega
    subst e
    exact end_retV rfl rfl
/-- How many states a puzzle has. -/
noncomputable def cntP (p : Pz) : Nat := if isPz p then Go.Pm.ordG p.n.toNat p.m else 0
theorem of_ord {n : Nat} {gs : List (List Int)} {C : Ch} (h : Of n gs C) : prO n C n = Go.Pm.ordG n gs := by
  rw [prO_n]; exact (Go.Pm.ordG_chain h.1 h.2.1 h.2.2).symm
theorem specGroupOrder_ok (n : Nat) (g : List (List Int)) (hn : 1 ≤ n ∧ n ≤ 20) (hg : isGens n g) : AC Try.prog 84 [.v (.int .i64 (n)), intss g] Hp.emp (fun _ => false) (retV (.v (.int .i64 (((Go.Pm.ordG n g : Nat) : Int))))) := by
  have hn2 := hn.2
  have hgp : gensP n g := by have := gensP.of hg; simpa using this
  have hd1 : decide (isGens (n : Int) g) = true := decide_eq_true hg
  have hb := buildChain_ok n g hn hgp hg.2.1
  refine ac_of_awp (N := ⟨_, fun _ => false, fun _ _ => rfl⟩) Try.func84 rfl (by kernel_rfl) Try.ntmps84 (by simp) ?_
  simp only [argsFr, List.zipIdx_cons, List.zipIdx_nil, go_sem]
  repeat' (first | refine awp_seqK fun K hK => ?_ | (refine awp_regionK 275 rfl ?_; simp only [List.map_cons, List.map_nil]; simp (maxSteps := 1000000) (dsimp := false) (implicitDefEqProofs := false) (disch := omega) only [wrap64, go_sem, hd1]) | (refine awp_regionQK 275 (by kernel_rfl) (by kernel_rfl) (by kernel_rfl) ?_; simp only [List.map_cons, List.map_nil]; simp (maxSteps := 1000000) (dsimp := false) (implicitDefEqProofs := false) (disch := omega) only [wrap64, go_sem, hd1]) | refine awp_block ?_ | (refine awp_skip ?_; simp only [go_sem, hd1]) | (refine awp_exit ?_; simp only [go_sem, hd1]) | (refine awp_ret ?_; try simp only [go_sem, hd1]) | (refine awp_condP rfl ?_; try simp only [go_sem, hd1]) | (refine BrP.mk (fun h => ?_) (fun h => ?_) <;> try simp (dsimp := false) (disch := omega) only [wrap64]) | (refine Br.mk (fun h => ?_) (fun h => ?_) <;> try simp (dsimp := false) (disch := omega) only [wrap64]) | refine Ob.mk (by first | omega | (intro _ _; rfl) | trivial | (intros; trivial) | assumption | (intro i hi; have h0 : i = 0 := (by omega); subst h0; first | rfl | trivial) | (intro i hi; have h0 : i = 0 ∨ i = 1 := (by omega); rcases h0 with rfl | rfl <;> rfl) | (intro i hi; have h0 : i = 0 ∨ i = 1 ∨ i = 2 := (by omega); rcases h0 with rfl | rfl | rfl <;> rfl)) ?_ | ((first | ((first | refine atF (f := 131) ?_ | refine atQ (f := 131) ?_); (first | (refine cV (hac := specIsGeneratorSet_ok n g) (hK := ?_)) | (refine cQV (hac := specIsGeneratorSet_ok n g) (hK := ?_)))) | ((first | refine atF (f := 134) ?_ | refine atQ (f := 134) ?_); refine callNew hb (.inr rfl) hn2 rfl rfl (fun C hC => ?_)) | ((first | refine atF (f := 133) ?_ | refine atQ (f := 133) ?_); refine cV (hfit := .cons (fits_chS (le_add _ _) hn2 (fun _ => trivial)) .nil) (hac := chainOrder_ok n C hn2 hC.1) (hK := ?_))); simp (maxSteps := 1000000) (dsimp := false) (implicitDefEqProofs := false) (disch := omega) only [wrap64, go_sem, hd1]) | apply_assumption -exfalso -symm)
  all_goals (first | (show endQ _ _ _ _ _ _ _; (repeat (rename (∀ (A : Fr) (H : Hp), AWP _ _ _ _ A H → _) => hK; clear hK)); (repeat (rename (Fr → Hp → Prop) => K; clear K))) | (show Exists _; (repeat (rename (∀ (A : Fr) (H : Hp), AWP _ _ _ _ A H → _) => hK; clear hK)); (repeat (rename (Fr → Hp → Prop) => K; clear K))) | skip)
  exact end_retV' rfl rfl (by rw [of_ord hC])
theorem isPz.natn {p : Pz} (h : isPz p) : p.n = ((p.n.toNat : Nat) : Int) := by have := h.n; omega
theorem specStateCount_ok (p : Pz) : AC Try.prog 33 [pz p] Hp.emp (fun _ => false) (retV (.v (.int .i64 (((cntP p : Nat) : Int))))) := by
  have hac : isPz p → AC Try.prog 84 [.v (.int .i64 (p.n)), intss p.m] Hp.emp (fun _ => false) (retV (.v (.int .i64 (((Go.Pm.ordG p.n.toNat p.m : Nat) : Int))))) := fun h => by
    have e := h.natn
    have h1 := h.n
    have := specGroupOrder_ok p.n.toNat p.m (by omega) (by rw [← e]; exact h.1)
    rwa [← e] at this
  refine ac_of_awp (N := ⟨_, fun _ => false, fun _ _ => rfl⟩) Try.func33 rfl (by kernel_rfl) Try.ntmps33 (by simp) ?_
  simp only [argsFr, List.zipIdx_cons, List.zipIdx_nil, go_sem]
  repeat' (first | refine awp_seqK fun K hK => ?_ | (refine awp_regionK 39 rfl ?_; simp only [List.map_cons, List.map_nil]; simp (maxSteps := 1000000) (dsimp := false) (implicitDefEqProofs := false) (disch := omega) only [wrap64, go_sem]) | (refine awp_regionQK 39 (by kernel_rfl) (by kernel_rfl) (by kernel_rfl) ?_; simp only [List.map_cons, List.map_nil]; simp (maxSteps := 1000000) (dsimp := false) (implicitDefEqProofs := false) (disch := omega) only [wrap64, go_sem]) | refine awp_block ?_ | (refine awp_skip ?_; simp only [go_sem]) | (refine awp_exit ?_; simp only [go_sem]) | (refine awp_ret ?_; try simp only [go_sem]) | (refine awp_condP rfl ?_; try simp only [go_sem]) | (refine BrP.mk (fun h => ?_) (fun h => ?_) <;> try simp (dsimp := false) (disch := omega) only [wrap64]) | (refine Br.mk (fun h => ?_) (fun h => ?_) <;> try simp (dsimp := false) (disch := omega) only [wrap64]) | refine Ob.mk (by first | omega | (intro _ _; rfl) | trivial | (intros; trivial) | assumption | (intro i hi; have h0 : i = 0 := (by omega); subst h0; first | rfl | trivial) | (intro i hi; have h0 : i = 0 ∨ i = 1 := (by omega); rcases h0 with rfl | rfl <;> rfl) | (intro i hi; have h0 : i = 0 ∨ i = 1 ∨ i = 2 := (by omega); rcases h0 with rfl | rfl | rfl <;> rfl)) ?_ | ((first | ((first | refine atF (f := 83) ?_ | refine atQ (f := 83) ?_); (first | (refine cV (hac := specIsValidPuzzle_ok p) (hK := ?_)) | (refine cQV (hac := specIsValidPuzzle_ok p) (hK := ?_)))) | ((first | refine atF (f := 84) ?_ | refine atQ (f := 84) ?_); refine cV (hac := hac (by assumption)) (hK := ?_))); simp (maxSteps := 1000000) (dsimp := false) (implicitDefEqProofs := false) (disch := omega) only [wrap64, go_sem]) | apply_assumption -exfalso -symm)
  all_goals (first | (show endQ _ _ _ _ _ _ _; (repeat (rename (∀ (A : Fr) (H : Hp), AWP _ _ _ _ A H → _) => hK; clear hK)); (repeat (rename (Fr → Hp → Prop) => K; clear K))) | (show Exists _; (repeat (rename (∀ (A : Fr) (H : Hp), AWP _ _ _ _ A H → _) => hK; clear hK)); (repeat (rename (Fr → Hp → Prop) => K; clear K))) | skip)
  · exact end_retV' rfl rfl (by unfold cntP; rw [if_pos (by assumption)])
  · exact end_retV' rfl rfl (by unfold cntP; rw [if_neg (by assumption)]; rfl)
theorem implStateCount_ok (p : Pz) (hs : p.s.size ≤ 140737488355328) : AC Try.prog 34 [pz p] Hp.emp (fun _ => false) (retV (.v (.int .i64 (((cntP p : Nat) : Int))))) := by
  have hnc : isPz p → AC Try.prog 86 [.v (.int .i64 (p.n)), intss p.m] Hp.emp (fun _ => false) (postN (kI p.n.toNat) p.n.toNat (Of p.n.toNat p.m)) := fun h => by
    have e := h.natn
    have h1 := h.n
    have := newChain_ok p.n.toNat p.m (by omega) h.gens h.1.2.1
    rw [← e] at this
    exact this
  have hn2 : isPz p → p.n.toNat ≤ 20 := fun h => by have := h.n; omega
  refine ac_of_awp (N := ⟨_, fun _ => false, fun _ _ => rfl⟩) Try.func34 rfl (by kernel_rfl) Try.ntmps34 (by simp) ?_
  simp only [argsFr, List.zipIdx_cons, List.zipIdx_nil, go_sem]
  repeat' (first | refine awp_seqK fun K hK => ?_ | (refine awp_regionK 39 rfl ?_; simp only [List.map_cons, List.map_nil]; simp (maxSteps := 1000000) (dsimp := false) (implicitDefEqProofs := false) (disch := omega) only [wrap64, go_sem]) | (refine awp_regionQK 39 (by kernel_rfl) (by kernel_rfl) (by kernel_rfl) ?_; simp only [List.map_cons, List.map_nil]; simp (maxSteps := 1000000) (dsimp := false) (implicitDefEqProofs := false) (disch := omega) only [wrap64, go_sem]) | refine awp_block ?_ | (refine awp_skip ?_; simp only [go_sem]) | (refine awp_exit ?_; simp only [go_sem]) | (refine awp_ret ?_; try simp only [go_sem]) | (refine awp_condP rfl ?_; try simp only [go_sem]) | (refine BrP.mk (fun h => ?_) (fun h => ?_) <;> try simp (dsimp := false) (disch := omega) only [wrap64]) | (refine Br.mk (fun h => ?_) (fun h => ?_) <;> try simp (dsimp := false) (disch := omega) only [wrap64]) | refine Ob.mk (by first | omega | (intro _ _; rfl) | trivial | (intros; trivial) | assumption | (intro i hi; have h0 : i = 0 := (by omega); subst h0; first | rfl | trivial) | (intro i hi; have h0 : i = 0 ∨ i = 1 := (by omega); rcases h0 with rfl | rfl <;> rfl) | (intro i hi; have h0 : i = 0 ∨ i = 1 ∨ i = 2 := (by omega); rcases h0 with rfl | rfl | rfl <;> rfl)) ?_ | ((first | ((first | refine atF (f := 85) ?_ | refine atQ (f := 85) ?_); (first | (refine cV (hac := implIsValidPuzzle_ok p hs) (hK := ?_)) | (refine cQV (hac := implIsValidPuzzle_ok p hs) (hK := ?_)))) | ((first | refine atF (f := 86) ?_ | refine atQ (f := 86) ?_); refine callNew (hnc (by assumption)) (.inl rfl) (hn2 (by assumption)) (scrub_box _) rfl (fun C hC => ?_)) | ((first | refine atF (f := 87) ?_ | refine atQ (f := 87) ?_); refine cV (hfit := .cons (fits_chI (le_add _ _) (hn2 (by assumption)) (fun _ => trivial)) (.cons (.refl _) .nil)) (hac := order_ok p.n.toNat C (hn2 (by assumption)) hC.1) (hK := ?_))); simp (maxSteps := 1000000) (dsimp := false) (implicitDefEqProofs := false) (disch := omega) only [wrap64, go_sem]) | apply_assumption -exfalso -symm)
  all_goals (first | (show endQ _ _ _ _ _ _ _; (repeat (rename (∀ (A : Fr) (H : Hp), AWP _ _ _ _ A H → _) => hK; clear hK)); (repeat (rename (Fr → Hp → Prop) => K; clear K))) | (show Exists _; (repeat (rename (∀ (A : Fr) (H : Hp), AWP _ _ _ _ A H → _) => hK; clear hK)); (repeat (rename (Fr → Hp → Prop) => K; clear K))) | skip)
  · exact end_retV' rfl rfl (by unfold cntP; rw [if_pos (by assumption), of_ord hC])
  · exact end_retV' rfl rfl (by unfold cntP; rw [if_neg (by assumption)]; rfl)
end Go.Proofs.Ytdllbnchcjgcdaa
end
