import Derived.Test.YtiihgbobdipikaaK5
import Derived.Test.YtiihgbobdipikaaK3
import Derived.Test.YtiihgbobdipikaaK8
import Derived.Test.YtiihgbobdipikaaK7
/- A pattern behind a word. -/
section
namespace Go.Proofs.Ytiihgbobdipikaa
open Go.Av
set_option linter.unusedSimpArgs false
set_option linter.unusedVariables false
attribute [local irreducible] AWP CallG Ob Br BrP Go.Av.Sub endQ AOps OpV AC thenA blkA opsVC opVC withA withArgs opsQ opQ CallQ withA2 withArgs2
open Go.Pm (Pm comp invp idn img)
end Go.Proofs.Ytiihgbobdipikaa
end
/- Whether a word is a shortest solution. -/
section
namespace Go.Proofs.Ytiihgbobdipikaa
open Go.Av
set_option linter.unusedSimpArgs false
set_option linter.unusedVariables false
attribute [local irreducible] AWP CallG Ob Br BrP Go.Av.Sub endQ AOps OpV AC thenA blkA opsVC opVC withA withArgs opsQ opQ CallQ withA2 withArgs2
open Go.Pm (Pm comp invp idn img)
theorem isSt_rng {p : Pz} {s : List Int} (h : isSt p s) : s.length ≤ 20 ∧ ∀ j, j < s.length → 0 ≤ s.getD j 0 ∧ s.getD j 0 < p.n.toNat := by
  have h1 := h.pm
  have hn := h.1.n
  exact ⟨by rw [h1.1]; omega, fun j hj => h1.2.1 j (by rw [← h1.1]; exact hj)⟩
noncomputable def ioP (p : Pz) (s w : List Int) : Prop := 0 ≤ dstP p s ∧ isW p.m.length w ∧ (w.length : Int) = dstP p s ∧ comp s (evalP p.n.toNat p.m w) = marks 0 s.length
noncomputable instance (p : Pz) (s w : List Int) : Decidable (ioP p s w) := by unfold ioP; infer_instance
theorem dstP_st {p : Pz} {s : List Int} (h : 0 ≤ dstP p s) : (XS p).isSome = true ∧ isSt p s ∧ s ∈ (XA p).st := by
  unfold dstP depD at h
  split at h
  · rename_i k
    split at h
    · exact ⟨k.1, k.2, by assumption⟩
    · omega
  · omega
theorem implIsOptimal_ok (p : Pz) (s w : List Int) (hs0 : p.s.size ≤ 140737488355328) : AC Try.prog 20 [pz p, ints s, ints w] Hp.emp (fun _ => false) (retV (.v (.bool (decide (ioP p s w))))) := by
  obtain ⟨hb1, hb2⟩ := XA_basic p
  have hcl := Go.Pm.comp_length s (evalP p.n.toNat p.m w)
  have hfb : isSt p s ∧ s ∈ (XA p).st → 0 ≤ fdI p (XA p) s ∧ fdI p (XA p) s < ((XA p).dp.length : Int) := fun h => by
    have := List.idxOf_lt_length_iff.2 h.2
    unfold fdI
    rw [if_pos h]; omega
  have hsl : isSt p s → (comp s (evalP p.n.toNat p.m w)).length ≤ 1048576 := fun h => by have := (isSt_rng h).1; omega
  have hds : (XS p).isSome = true → isSt p s ∧ s ∈ (XA p).st → dstP p s = (XA p).dp.getD (fdI p (XA p) s).toNat 0 ∧ 0 ≤ dstP p s := fun h k => by
    have e : dstP p s = (XA p).dp.getD (fdI p (XA p) s).toNat 0 := by
      unfold dstP depD fdI
      rw [if_pos ⟨h, k.1⟩, if_pos k.2, if_pos k]; rfl
    have h1 := (XA_whole h).2.1.le (fdI p (XA p) s).toNat (by have := hfb k; omega)
    exact ⟨e, by rw [e]; exact h1.1⟩
  refine ac_of_awp (N := ⟨_, fun _ => false, fun _ _ => rfl⟩) Try.func20 rfl (by kernel_rfl) Try.ntmps20 (by simp) ?_
  simp only [argsFr, List.zipIdx_cons, List.zipIdx_nil, go_sem]
  repeat' (first | (refine Ob.mk (by have := hfb (by assumption); omega) ?_) | ((first | refine atF (f := 51) ?_ | refine atQ (f := 51) ?_); refine callS3 (exploreState_ok p s hs0) rfl (fun hX => ?_) (fun hX => ?_) <;> simp (maxSteps := 1000000) (dsimp := false) (implicitDefEqProofs := false) (disch := omega) only [wrap64, go_sem, pM_low]) | refine awp_seqK fun K hK => ?_ | (refine awp_regionK 975 rfl ?_; simp only [List.map_cons, List.map_nil]; simp (maxSteps := 1000000) (dsimp := false) (implicitDefEqProofs := false) (disch := omega) only [wrap64, go_sem, pM_low]) | (refine awp_regionQK 975 (by kernel_rfl) (by kernel_rfl) (by kernel_rfl) ?_; simp only [List.map_cons, List.map_nil]; simp (maxSteps := 1000000) (dsimp := false) (implicitDefEqProofs := false) (disch := omega) only [wrap64, go_sem, pM_low]) | refine awp_block ?_ | (refine awp_skip ?_; simp only [go_sem, pM_low]) | (refine awp_exit ?_; simp only [go_sem, pM_low]) | (refine awp_ret ?_; try simp only [go_sem, pM_low]) | (refine awp_condP rfl ?_; try simp only [go_sem, pM_low]) | (refine BrP.mk (fun h => ?_) (fun h => ?_) <;> try simp (dsimp := false) (disch := omega) only [wrap64]) | (refine Br.mk (fun h => ?_) (fun h => ?_) <;> try simp (dsimp := false) (disch := omega) only [wrap64]) | refine Ob.mk (by first | omega | (intro _ _; rfl) | trivial | (intros; trivial) | assumption | (intro i hi; have h0 : i = 0 := (by omega); subst h0; first | rfl | trivial) | (intro i hi; have h0 : i = 0 ∨ i = 1 := (by omega); rcases h0 with rfl | rfl <;> rfl) | (intro i hi; have h0 : i = 0 ∨ i = 1 ∨ i = 2 := (by omega); rcases h0 with rfl | rfl | rfl <;> rfl)) ?_ | ((first | ((first | refine atF (f := 56) ?_ | refine atQ (f := 56) ?_); (first | (refine cV (hac := puzIsWord_ok p w) (hK := ?_)) | (refine cQV (hac := puzIsWord_ok p w) (hK := ?_)))) | ((first | refine atF (f := 57) ?_ | refine atQ (f := 57) ?_); (first | (refine cV (hac := length_ok w) (hK := ?_)) | (refine cQV (hac := length_ok w) (hK := ?_)))) | ((first | refine atF (f := 59) ?_ | refine atQ (f := 59) ?_); (first | (refine cFI (hac := puzApply_ok p s w (And.left (by assumption)) (by assumption) 39) (hK := ?_)) | (refine cQI (hac := puzApply_ok p s w (And.left (by assumption)) (by assumption) 39) (hK := ?_)))) | ((first | refine atF (f := 58) ?_ | refine atQ (f := 58) ?_); (first | (refine cV (hac := isIdentity_ok (comp s (evalP p.n.toNat p.m w)) (hsl (And.left (by assumption)))) (hK := ?_)) | (refine cQV (hac := isIdentity_ok (comp s (evalP p.n.toNat p.m w)) (hsl (And.left (by assumption)))) (hK := ?_))))); simp (maxSteps := 1000000) (dsimp := false) (implicitDefEqProofs := false) (disch := omega) only [wrap64, go_sem, pM_low]) | apply_assumption -exfalso -symm)
  all_goals (first | (show endQ _ _ _ _ _ _ _; (repeat (rename (∀ (A : Fr) (H : Hp), AWP _ _ _ _ A H → _) => hK; clear hK)); (repeat (rename (Fr → Hp → Prop) => K; clear K))) | (show Exists _; (repeat (rename (∀ (A : Fr) (H : Hp), AWP _ _ _ _ A H → _) => hK; clear hK)); (repeat (rename (Fr → Hp → Prop) => K; clear K))) | skip)
  · obtain ⟨h1, h2⟩ := hds (by assumption) (by assumption)
    refine end_retB rfl rfl ?_
    rw [hcl]
    simp only [decide_eq_true_eq]
    unfold ioP
    exact ⟨fun k => ⟨h2, by assumption, by omega, k⟩, fun k => k.2.2.2⟩
  · obtain ⟨h1, h2⟩ := hds (by assumption) (by assumption)
    refine end_retB rfl rfl ?_
    simp only [Bool.false_eq_true, false_iff]
    exact fun k => absurd k.2.2.1 (by omega)
  · refine end_retB rfl rfl ?_
    simp only [Bool.false_eq_true, false_iff]
    exact fun k => absurd k.2.1 (by assumption)
  · refine end_retB rfl rfl ?_
    simp only [Bool.false_eq_true, false_iff]
    exact fun k => absurd (dstP_st k.1).2 (by assumption)
  · refine end_retB rfl rfl ?_
    simp only [Bool.false_eq_true, false_iff]
    exact fun k => absurd (dstP_st k.1).1 (by rw [(by assumption : (XS p).isSome = false)]; exact Bool.false_ne_true)
end Go.Proofs.Ytiihgbobdipikaa
end
/- The letters that lead nearer, and where they lead. -/
section
namespace Go.Proofs.Ytiihgbobdipikaa
open Go.Av
set_option linter.unusedSimpArgs false
set_option linter.unusedVariables false
attribute [local irreducible] AWP CallG Ob Br BrP Go.Av.Sub endQ AOps OpV AC thenA blkA opsVC opVC withA withArgs opsQ opQ CallQ withA2 withArgs2
open Go.Pm (Pm comp invp idn img Gen Bf srch sorts srtN Srt slot sidx insAt)
theorem lets_neg : ∀ (m : Nat) (l : Int), l ∈ lets m → -l ∈ lets m
  | 0, l, h => by simp [lets] at h
  | m + 1, l, h => by
    unfold lets at h ⊢
    simp only [List.mem_append, List.mem_cons, List.not_mem_nil, or_false] at h ⊢
    rcases h with h | h | h
    · exact .inl (lets_neg m l h)
    · rw [h]; exact .inr (.inr rfl)
    · rw [h, Int.neg_neg]; exact .inr (.inl rfl)
theorem letP_neg {n : Nat} {g : List (List Int)} {l : Int} (hg : gensP n g) (hl : inL g l) : comp (letP g l) (letP g (-l)) = idn n := by
  have h1 := letP_pm hg hl
  unfold inL at hl
  unfold letP at h1 ⊢
  by_cases e : 0 < l
  · rw [if_pos e] at h1
    rw [if_pos e, if_neg (by omega), show - -l - 1 = l - 1 by omega]
    exact h1.comp_inv
  · have h2 : Pm n (g.getD (-l - 1).toNat []) := hg.2.2 _ (by omega)
    rw [if_neg e, if_pos (by omega)]
    exact h2.inv_comp
theorem lsP_inv {p : Pz} (hz : isPz p) : Go.Pm.InvL p.n.toNat (lsP p) := by
  intro x hx
  simp only [lsP, List.mem_map] at hx
  obtain ⟨l, hl, rfl⟩ := hx
  refine ⟨(-l, letP p.m (-l)), List.mem_map.2 ⟨-l, lets_neg _ _ hl, rfl⟩, ?_⟩
  obtain ⟨j, hj, rfl⟩ := List.getElem_of_mem hl
  have := lets_inL p.m j hj
  rw [List.getD_eq_getElem?_getD, List.getElem?_eq_getElem hj] at this
  exact letP_neg hz.gens this
theorem exH_scq (p : Pz) (B : Bf) {q : Nat → Bool} (e : q 1000003 = false) : (exH p B).scrub q = exH p B := by
  unfold exH exR
  simp only [Hp.scrub_upd, Hp.scrub_emp, Blk.scrub_cells, Blk.scrub_mp, mS_scrub_iv, scF_vecF, List.map_cons, List.map_nil]
  simp only [AV.scrub, e, Bool.false_eq_true, if_false]
section
variable {P : Program} {N : Cx} {A : Fr} {H : Hp}
/-- A call that reads an exploration, and hands back a new row d. -/
theorem callEx {f : FuncId} {args : List AV} {p : Pz} {B : Bf} {a : AV} {d : Nat} {xs : List Int} {K : AV → Fr → Hp → Prop} (hd : d < 1000000) (hH : Hp.le (exH p B) H) (hac : AC P f args (exH p B) pM (fun r H' => r = a ∧ H' = (exH p B).upd d (.cells xs.length (cM iv 0 xs)))) (hpd : N.pn d = false) (ha : ∀ q : Nat → Bool, q d = false → a.scrub q = a)
    (hK : K a (A.scrub (· == d)) ((H.scrub (· == d)).upd d (.cells xs.length (cM iv 0 xs)))) : CallG P N f args A H K := by
  have l1 : liveB ((exH p B).upd d (.cells xs.length (cM iv 0 xs))) d = true := by simp [liveB, Hp.upd]
  have l2 : liveB ((exH p B).upd d (.cells xs.length (cM iv 0 xs))) 1000003 = true := by
    unfold liveB Hp.upd
    rw [if_neg (by omega)]; rfl
  refine callPnD hH hac exH_pM ?_ hpd (ha _ (by simp [l1])) ?_ ?_ hK
  · cases e : exH p B d with
    | none => rfl
    | some C => have := exH_ge d (by rw [e]; simp); omega
  · rw [Hp.scrub_upd, exH_scq p B (by simp [l2])]; rfl
  · intro h C hC
    have h1 := congrFun (exH_scq p B (q := (· == d)) (beq_eq_false_iff_ne.2 (by omega))) h
    unfold Hp.scrub at h1
    rw [hC, Option.map_some, Option.some.injEq] at h1
    exact h1
end
theorem tup2_own {d n m : Nat} {f : Nat → AV} (q : Nat → Bool) (h : q d = false) : (AV.tup 2 (vecF [.own d 0 1 n, .list false 1 m f])).scrub q = .tup 2 (vecF [.own d 0 1 n, .list false 1 m f]) := by
  simp only [scrub_tup, scF_vecF, List.map_cons, List.map_nil, scrub_list, scrub_own, h, Bool.false_eq_true, if_false]
theorem tup2_ownV {d n : Nat} {x : Value} (q : Nat → Bool) (h : q d = false) : (AV.tup 2 (vecF [.own d 0 1 n, .v x])).scrub q = .tup 2 (vecF [.own d 0 1 n, .v x]) := by
  simp only [scrub_tup, scF_vecF, List.map_cons, List.map_nil, scrub_v, scrub_own, h, Bool.false_eq_true, if_false]
theorem closer_ok (p : Pz) (B : Bf) (k : Nat) (hz : isPz p) (hw : Bf.Whole p.n.toNat (lsP p) (idn p.n.toNat) B) (hx : B.st.length ≤ 3000) (hk : k < B.st.length) : AC Try.prog 60 [.ref 1000000 0, .v (.int .i64 ((k : Int)))] (exH p B) pM (fun r H => r = .tup 2 (vecF [.own 30 0 1 (B.clF (lets p.m.length) k (lsP p).length).length, .list false 1 (B.clS k (lsP p).length).length (cM iv 0 (B.clS k (lsP p).length))]) ∧ H = (exH p B).upd 30 (.cells (B.clF (lets p.m.length) k (lsP p).length).length (cM iv 0 (B.clF (lets p.m.length) k (lsP p).length)))) := by
  have hm := hz.1.2.1
  have hnl := hw.nl
  have hld := hw.ld
  have hlm := lsP_length p
  have hll := lets_length p.m.length
  have hrow := (hw.nx k hk).1
  have hto := fun i hi => hw.nxb (k := k) (i := i) hk hi
  clear hw
  refine ac_of_awp (N := ⟨_, pM, fun h hh => pM_low (Nat.lt_of_lt_of_le hh (by decide))⟩) Try.func60 rfl (by kernel_rfl) Try.ntmps60 (by simp) ?_
  simp only [argsFr, List.zipIdx_cons, List.zipIdx_nil, go_sem]
  unfold exH exR
  repeat' (first | refine awp_seqK fun K hK => ?_ | (refine awp_regionK 35184623749107 rfl ?_; simp only [List.map_cons, List.map_nil]; simp (maxSteps := 1000000) (dsimp := false) (implicitDefEqProofs := false) (disch := omega) only [wrap64, go_sem]) | (refine awp_regionQK 35184623749107 (by kernel_rfl) (by kernel_rfl) (by kernel_rfl) ?_; simp only [List.map_cons, List.map_nil]; simp (maxSteps := 1000000) (dsimp := false) (implicitDefEqProofs := false) (disch := omega) only [wrap64, go_sem]) | refine awp_block ?_ | (refine awp_skip ?_; simp only [go_sem]) | (refine awp_exit ?_; simp only [go_sem]) | (refine awp_ret ?_; try simp only [go_sem]) | (refine awp_condP rfl ?_; try simp only [go_sem]) | (refine BrP.mk (fun h => ?_) (fun h => ?_) <;> try simp (dsimp := false) (disch := omega) only [wrap64]) | (refine Br.mk (fun h => ?_) (fun h => ?_) <;> try simp (dsimp := false) (disch := omega) only [wrap64]) | refine Ob.mk (by first | omega | (intro _ _; rfl) | trivial | (intros; trivial) | assumption | (intro i hi; have h0 : i = 0 := (by omega); subst h0; first | rfl | trivial) | (intro i hi; have h0 : i = 0 ∨ i = 1 := (by omega); rcases h0 with rfl | rfl <;> rfl) | (intro i hi; have h0 : i = 0 ∨ i = 1 ∨ i = 2 := (by omega); rcases h0 with rfl | rfl | rfl <;> rfl)) ?_ | ((first | ((first | refine atF (f := 73) ?_ | refine atQ (f := 73) ?_); (first | (refine cFI (hac := letters_ok p.m.length (by omega) 17) (hK := ?_)) | (refine cQI (hac := letters_ok p.m.length (by omega) 17) (hK := ?_))))); simp (maxSteps := 1000000) (dsimp := false) (implicitDefEqProofs := false) (disch := omega) only [wrap64, go_sem]) | apply_assumption -exfalso -symm)
  all_goals (first | (show endQ _ _ _ _ _ _ _; (repeat (rename (∀ (A : Fr) (H : Hp), AWP _ _ _ _ A H → _) => hK; clear hK)); (repeat (rename (Fr → Hp → Prop) => K; clear K))) | (show Exists _; (repeat (rename (∀ (A : Fr) (H : Hp), AWP _ _ _ _ A H → _) => hK; clear hK)); (repeat (rename (Fr → Hp → Prop) => K; clear K))) | skip)
  have f0 : B.clF (lets p.m.length) k 0 = [] := rfl
  have s0 : B.clS k 0 = [] := rfl
  refine awp_loop (ι := Nat) (fun i => [(26, .v (.int .i64 (i))), (25, .v (.int .i64 ((B.nx.getD k []).length))), (24, .list false 1 (B.nx.getD k []).length (cM iv 0 (B.nx.getD k []))), (8, .list false 1 (lets p.m.length).length (cM iv 0 (lets p.m.length))), (7, .own 31 0 1 (B.clS k i).length), (6, .own 30 0 1 (B.clF (lets p.m.length) k i).length), (1, .v (.int .i64 ((k : Int)))), (0, .ref 1000000 0)]) (fun i => ((exH p B).upd 30 (.cells (B.clF (lets p.m.length) k i).length (cM iv 0 (B.clF (lets p.m.length) k i)))).upd 31 (.cells (B.clS k i).length (cM iv 0 (B.clS k i)))) (fun i => i ≤ (lsP p).length) (fun i => (lsP p).length - i) 0 (Nat.zero_le _) (Sub.trans (Sub.nil (i := 6) 30 1 (cM iv 0 []) rfl rfl) (Sub.trans (Sub.nil (i := 7) 31 1 (cM iv 0 []) rfl rfl) (Sub.toL (by rw [f0, s0]; exact (by simp only [go_sem] <;> first | trivial | (simp only [Option.some.injEq, AV.v.injEq, AV.own.injEq, AV.list.injEq, Value.int.injEq, Value.bool.injEq, true_and, and_true]; first | omega | (simp; done)) | (simp; done) | (simp; omega))) (by rw [f0, s0]; unfold exH exR; simp only [Hp.scrub_upd, Hp.scrub_emp, Blk.scrub_mp, mS_scrub_iv, Blk.scrub_cells, scF_vecF, List.map_cons, List.map_nil, AV.scrub, Nat.reduceBEq, Bool.false_eq_true, if_false]; repeat' (first | exact Hp.le_emp _ | refine Hp.le_upd rfl ?_))))) ?_
  intro i hi
  have hti := hto i
  have hf := B.clF_succ (lets p.m.length) k i
  have hs := B.clS_succ k i
  have hfl := B.clF_le (lets p.m.length) k i
  have hsl := B.clS_len (lets p.m.length) k i
  unfold exH exR
  repeat' (first | refine awp_seqK fun K hK => ?_ | (refine awp_regionK 35184623749107 rfl ?_; simp only [List.map_cons, List.map_nil]; simp (maxSteps := 1000000) (dsimp := false) (implicitDefEqProofs := false) (disch := omega) only [wrap64, go_sem]) | (refine awp_regionQK 35184623749107 (by kernel_rfl) (by kernel_rfl) (by kernel_rfl) ?_; simp only [List.map_cons, List.map_nil]; simp (maxSteps := 1000000) (dsimp := false) (implicitDefEqProofs := false) (disch := omega) only [wrap64, go_sem]) | refine awp_block ?_ | (refine awp_skip ?_; simp only [go_sem]) | (refine awp_exit ?_; simp only [go_sem]) | (refine awp_ret ?_; try simp only [go_sem]) | (refine awp_condP rfl ?_; try simp only [go_sem]) | (refine BrP.mk (fun h => ?_) (fun h => ?_) <;> try simp (dsimp := false) (disch := omega) only [wrap64]) | (refine Br.mk (fun h => ?_) (fun h => ?_) <;> try simp (dsimp := false) (disch := omega) only [wrap64]) | refine Ob.mk (by first | omega | (intro _ _; rfl) | trivial | (intros; trivial) | assumption | (intro i hi; have h0 : i = 0 := (by omega); subst h0; first | rfl | trivial) | (intro i hi; have h0 : i = 0 ∨ i = 1 := (by omega); rcases h0 with rfl | rfl <;> rfl) | (intro i hi; have h0 : i = 0 ∨ i = 1 ∨ i = 2 := (by omega); rcases h0 with rfl | rfl | rfl <;> rfl)) ?_ | apply_assumption -exfalso -symm)
  all_goals (first | (show endQ _ _ _ _ _ _ _; (repeat (rename (∀ (A : Fr) (H : Hp), AWP _ _ _ _ A H → _) => hK; clear hK)); (repeat (rename (Fr → Hp → Prop) => K; clear K))) | (show Exists _; (repeat (rename (∀ (A : Fr) (H : Hp), AWP _ _ _ _ A H → _) => hK; clear hK)); (repeat (rename (Fr → Hp → Prop) => K; clear K))) | skip)
  · have hyd : B.dn k i = true := decide_eq_true (by assumption)
    rw [if_pos hyd] at hf hs
    refine ⟨i + 1, by omega, by omega, ?_⟩
    rw [hf, hs]
    exact Sub.toL (by simp only [go_sem] <;> first | trivial | (simp only [Option.some.injEq, AV.v.injEq, AV.own.injEq, AV.list.injEq, Value.int.injEq, Value.bool.injEq, true_and, and_true]; first | omega | (simp; done)) | (simp; done) | (simp; omega)) (by (repeat' (first | exact Hp.le_emp _ | exact Hp.le_refl _ | refine Hp.le_upd ?_ ?_)); all_goals (first | rfl | (simp only [go_sem]; first | rfl | (refine cellsE ?_ ?_ <;> (simp)) | (simp))))
  · have hnd : ¬ B.dn k i = true := fun h => absurd (of_decide_eq_true h) (by assumption)
    rw [if_neg hnd, List.append_nil] at hf hs
    refine ⟨i + 1, by omega, by omega, ?_⟩
    rw [hf, hs]
    exact Sub.toL (by simp only [go_sem] <;> first | trivial | (simp only [Option.some.injEq, AV.v.injEq, AV.own.injEq, AV.list.injEq, Value.int.injEq, Value.bool.injEq, true_and, and_true]; first | omega | (simp; done)) | (simp; done) | (simp; omega)) (by (repeat' (first | exact Hp.le_emp _ | exact Hp.le_refl _ | refine Hp.le_upd ?_ ?_)); all_goals (first | rfl | (simp only [go_sem]; first | rfl | (refine cellsE ?_ ?_ <;> (simp)) | (simp))))
  · have e : i = (lsP p).length := by omega
    subst e
    refine end_tup2 rfl (by decide) (Sub.fits (fun x => x = 31) (Fr.fit_get _ _ (Fr.fit_cons rfl (.refl _) (Fr.fit_cons rfl ?_ (Fr.fit_nil _)))) ?_) ⟨rfl, rfl⟩
    · exact fits_I rfl rfl rfl rfl
    · exact leF_upd rfl (.refl _ _ _) (leF_upd rfl (.refl _ _ _) (leF_upd rfl (.refl _ _ _) leF_emp (by omega)) (by omega)) (by omega)
end Go.Proofs.Ytiihgbobdipikaa
end
/- The first letters of shortest words. -/
section
namespace Go.Proofs.Ytiihgbobdipikaa
open Go.Av
set_option linter.unusedSimpArgs false
set_option linter.unusedVariables false
attribute [local irreducible] AWP CallG Ob Br BrP Go.Av.Sub endQ AOps OpV AC thenA blkA opsVC opVC withA withArgs opsQ opQ CallQ withA2 withArgs2
open Go.Pm (Pm comp invp idn img Gen Bf srch sorts srtN Srt slot sidx insAt)
theorem dst_eq {p : Pz} {s : List Int} (h : 0 ≤ dstP p s) : dstP p s = (XA p).dp.getD ((XA p).st.idxOf s) 0 := by
  obtain ⟨h1, h2, h3⟩ := dstP_st h
  unfold dstP depD
  rw [if_pos ⟨h1, h2⟩, if_pos h3]
theorem dst_no {p : Pz} {s : List Int} (h : ¬ 0 ≤ dstP p s) (h1 : (XS p).isSome = true) : ¬ (isSt p s ∧ s ∈ (XA p).st) := fun k => by
  refine h ?_
  have e : dstP p s = (XA p).dp.getD ((XA p).st.idxOf s) 0 := by
    unfold dstP depD
    rw [if_pos ⟨h1, k.1⟩, if_pos k.2]
  rw [e]
  exact ((XA_whole h1).2.1.le _ (List.idxOf_lt_length_iff.2 k.2)).1
noncomputable def oflP (p : Pz) (s : List Int) : List Int := if 0 ≤ dstP p s then (XA p).clF (lets p.m.length) ((XA p).st.idxOf s) (lsP p).length else []
theorem fdI_yes {p : Pz} {B : Bf} {s : List Int} (h : isSt p s ∧ s ∈ B.st) : fdI p B s = ((B.st.idxOf s : Nat) : Int) := if_pos h
theorem dst_yes {p : Pz} {s : List Int} (h1 : (XS p).isSome = true) (h : isSt p s ∧ s ∈ (XA p).st) : 0 ≤ dstP p s := Classical.byContradiction fun k => dst_no k h1 h
theorem implOptimalFirstLetters_ok (p : Pz) (s : List Int) (hs0 : p.s.size ≤ 140737488355328) (d : Nat) : AC Try.prog 21 [pz p, ints s] Hp.emp (fun _ => false) (retI d (oflP p s)) := by
  have hc := fun (h : (XS p).isSome = true) (k : isSt p s ∧ s ∈ (XA p).st) => closer_ok p (XA p) _ (XA_whole h).1 (XA_whole h).2.1 (XA_whole h).2.2 (List.idxOf_lt_length_iff.2 k.2)
  have hfd := fun k : isSt p s ∧ s ∈ (XA p).st => fdI_yes k
  refine ac_of_awp (N := ⟨_, fun _ => false, fun _ _ => rfl⟩) Try.func21 rfl (by kernel_rfl) Try.ntmps21 (by simp) ?_
  simp only [argsFr, List.zipIdx_cons, List.zipIdx_nil, go_sem]
  repeat' (first | ((first | refine atF (f := 51) ?_ | refine atQ (f := 51) ?_); refine callS3 (exploreState_ok p s hs0) rfl (fun hX => ?_) (fun hX => ?_) <;> simp (maxSteps := 1000000) (dsimp := false) (implicitDefEqProofs := false) (disch := omega) only [wrap64, go_sem, pM_low]) | refine awp_seqK fun K hK => ?_ | (refine awp_regionK 262647 rfl ?_; simp only [List.map_cons, List.map_nil]; simp (maxSteps := 1000000) (dsimp := false) (implicitDefEqProofs := false) (disch := omega) only [wrap64, go_sem, pM_low]) | (refine awp_regionQK 262647 (by kernel_rfl) (by kernel_rfl) (by kernel_rfl) ?_; simp only [List.map_cons, List.map_nil]; simp (maxSteps := 1000000) (dsimp := false) (implicitDefEqProofs := false) (disch := omega) only [wrap64, go_sem, pM_low]) | refine awp_block ?_ | (refine awp_skip ?_; simp only [go_sem, pM_low]) | (refine awp_exit ?_; simp only [go_sem, pM_low]) | (refine awp_ret ?_; try simp only [go_sem, pM_low]) | (refine awp_condP rfl ?_; try simp only [go_sem, pM_low]) | (refine BrP.mk (fun h => ?_) (fun h => ?_) <;> try simp (dsimp := false) (disch := omega) only [wrap64]) | (refine Br.mk (fun h => ?_) (fun h => ?_) <;> try simp (dsimp := false) (disch := omega) only [wrap64]) | refine Ob.mk (by first | omega | (intro _ _; rfl) | trivial | (intros; trivial) | assumption | (intro i hi; have h0 : i = 0 := (by omega); subst h0; first | rfl | trivial) | (intro i hi; have h0 : i = 0 ∨ i = 1 := (by omega); rcases h0 with rfl | rfl <;> rfl) | (intro i hi; have h0 : i = 0 ∨ i = 1 ∨ i = 2 := (by omega); rcases h0 with rfl | rfl | rfl <;> rfl)) ?_ | ((first | ((first | refine atF (f := 60) ?_ | refine atQ (f := 60) ?_); (rw [hfd (by assumption)]; refine callEx (by omega) (by unfold exH exR; repeat' (first | exact Hp.le_emp _ | refine Hp.le_upd rfl ?_)) (hc (by assumption) (by assumption)) rfl (fun q h => tup2_own q h) ?_))); simp (maxSteps := 1000000) (dsimp := false) (implicitDefEqProofs := false) (disch := omega) only [wrap64, go_sem, pM_low]) | apply_assumption -exfalso -symm)
  all_goals (first | (show endQ _ _ _ _ _ _ _; (repeat (rename (∀ (A : Fr) (H : Hp), AWP _ _ _ _ A H → _) => hK; clear hK)); (repeat (rename (Fr → Hp → Prop) => K; clear K))) | (show Exists _; (repeat (rename (∀ (A : Fr) (H : Hp), AWP _ _ _ _ A H → _) => hK; clear hK)); (repeat (rename (Fr → Hp → Prop) => K; clear K))) | skip)
  · refine end_retI' rfl rfl rfl ?_ rfl rfl
    exact (if_pos (dst_yes (by assumption) (by assumption))).symm
  · refine end_retI_nil' rfl rfl ?_ rfl
    exact (if_neg (fun k => absurd (dstP_st k).2 (by assumption))).symm
  · refine end_retI_nil' rfl rfl ?_ rfl
    exact (if_neg (fun k => absurd (dstP_st k).1 (by rw [(by assumption : (XS p).isSome = false)]; exact Bool.false_ne_true))).symm
end Go.Proofs.Ytiihgbobdipikaa
end
/- The least shortest words. -/
section
namespace Go.Proofs.Ytiihgbobdipikaa
open Go.Av
set_option linter.unusedSimpArgs false
set_option linter.unusedVariables false
attribute [local irreducible] AWP CallG Ob Br BrP Go.Av.Sub endQ AOps OpV AC thenA blkA opsVC opVC withA withArgs opsQ opQ CallQ withA2 withArgs2
open Go.Pm (Pm comp invp idn img Gen Bf srch sorts srtN Srt slot sidx insAt)
/-- The word of a row of a search. -/
def wdB (p : Pz) (B : Bf) (k : Nat) : List Int := B.wrd (lets p.m.length) (lsP p).length k (B.dp.getD k 0).toNat
def owB (p : Pz) (B : Bf) (k : Nat) : List Int × Bool := if B.dp.getD k 0 > 200 then ([], false) else (wdB p B k, true)
theorem clF_cls (B : Bf) (L : List Int) (k m : Nat) : (B.clF L k m).length = (B.cls k m).length := List.length_map _
theorem clS_cls (B : Bf) (k m : Nat) : (B.clS k m).length = (B.cls k m).length := List.length_map _
theorem optimalWord_ok (p : Pz) (B : Bf) (k : Nat) (hz : isPz p) (hw : Bf.Whole p.n.toNat (lsP p) (idn p.n.toNat) B) (hx : B.st.length ≤ 3000) (hk : k < B.st.length) : AC Try.prog 47 [.ref 1000000 0, .v (.int .i64 ((k : Int)))] (exH p B) pM (fun r H => r = .tup 2 (vecF [.own 40 0 1 (owB p B k).1.length, .v (.bool ((owB p B k).2))]) ∧ H = (exH p B).upd 40 (.cells (owB p B k).1.length (cM iv 0 (owB p B k).1))) := by
  have hld := hw.ld
  have hit := fun t ht => hw.itr (lsP_pm hz) (lsP_inv hz) hk t ht
  have hcl := fun {k} (hk : k < B.st.length) => closer_ok p B k hz hw hx hk
  have hfs := fun {k} (hk : k < B.st.length) h0 => hw.fst (lsP_pm hz) (lsP_inv hz) hk h0
  have hnx := fun {k} (hk : k < B.st.length) {i} hi => hw.nxb (k := k) (i := i) hk hi
  have hdk := hw.le k hk
  have hy : ¬ B.dp.getD k 0 > 200 → owB p B k = (wdB p B k, true) := fun h => if_neg h
  have hn : B.dp.getD k 0 > 200 → owB p B k = ([], false) := fun h => if_pos h
  clear hw
  refine ac_of_awp (N := ⟨_, pM, fun h hh => pM_low (Nat.lt_of_lt_of_le hh (by decide))⟩) Try.func47 rfl (by kernel_rfl) Try.ntmps47 (by simp) ?_
  simp only [argsFr, List.zipIdx_cons, List.zipIdx_nil, go_sem]
  unfold exH exR
  repeat' (first | refine awp_seqK fun K hK => ?_ | (refine awp_regionK 16843251 rfl ?_; simp only [List.map_cons, List.map_nil]; simp (maxSteps := 1000000) (dsimp := false) (implicitDefEqProofs := false) (disch := omega) only [wrap64, go_sem]) | (refine awp_regionQK 16843251 (by kernel_rfl) (by kernel_rfl) (by kernel_rfl) ?_; simp only [List.map_cons, List.map_nil]; simp (maxSteps := 1000000) (dsimp := false) (implicitDefEqProofs := false) (disch := omega) only [wrap64, go_sem]) | refine awp_block ?_ | (refine awp_skip ?_; simp only [go_sem]) | (refine awp_exit ?_; simp only [go_sem]) | (refine awp_ret ?_; try simp only [go_sem]) | (refine awp_condP rfl ?_; try simp only [go_sem]) | (refine BrP.mk (fun h => ?_) (fun h => ?_) <;> try simp (dsimp := false) (disch := omega) only [wrap64]) | (refine Br.mk (fun h => ?_) (fun h => ?_) <;> try simp (dsimp := false) (disch := omega) only [wrap64]) | refine Ob.mk (by first | omega | (intro _ _; rfl) | trivial | (intros; trivial) | assumption | (intro i hi; have h0 : i = 0 := (by omega); subst h0; first | rfl | trivial) | (intro i hi; have h0 : i = 0 ∨ i = 1 := (by omega); rcases h0 with rfl | rfl <;> rfl) | (intro i hi; have h0 : i = 0 ∨ i = 1 ∨ i = 2 := (by omega); rcases h0 with rfl | rfl | rfl <;> rfl)) ?_ | apply_assumption -exfalso -symm)
  all_goals (first | (show endQ _ _ _ _ _ _ _; (repeat (rename (∀ (A : Fr) (H : Hp), AWP _ _ _ _ A H → _) => hK; clear hK)); (repeat (rename (Fr → Hp → Prop) => K; clear K))) | (show Exists _; (repeat (rename (∀ (A : Fr) (H : Hp), AWP _ _ _ _ A H → _) => hK; clear hK)); (repeat (rename (Fr → Hp → Prop) => K; clear K))) | skip)
  · rw [hn (by assumption)]
    refine end_tup2 rfl (by decide) (Sub.trans (Sub.nil (i := 4) 40 1 (cM iv 0 []) rfl rfl) (Sub.toL (by simp only [go_sem] <;> first | trivial | (simp only [Option.some.injEq, AV.v.injEq, AV.own.injEq, AV.list.injEq, Value.int.injEq, Value.bool.injEq, true_and, and_true]; first | omega | (simp; done)) | (simp; done) | (simp; omega)) ?_)) ⟨rfl, rfl⟩
    simp only [Hp.scrub_upd, Hp.scrub_emp, Blk.scrub_mp, mS_scrub_iv, Blk.scrub_cells, scF_vecF, List.map_cons, List.map_nil, AV.scrub, Nat.reduceBEq, Bool.false_eq_true, if_false]
    repeat' (first | exact Hp.le_emp _ | refine Hp.le_upd rfl ?_)
  · have f0 : B.wrd (lets p.m.length) (lsP p).length k 0 = [] := rfl
    have i0 : B.itr (lsP p).length k 0 = k := rfl
    refine awp_loop (ι := Nat) (fun t => [(6, .own 40 0 1 (B.wrd (lets p.m.length) (lsP p).length k t).length), (1, .v (.int .i64 (((B.itr (lsP p).length k t : Nat) : Int)))), (0, .ref 1000000 0)]) (fun t => (exH p B).upd 40 (.cells (B.wrd (lets p.m.length) (lsP p).length k t).length (cM iv 0 (B.wrd (lets p.m.length) (lsP p).length k t)))) (fun t => (t : Int) ≤ B.dp.getD k 0) (fun t => (B.dp.getD k 0).toNat - t) 0 (by omega) (Sub.trans (Sub.nil (i := 6) 40 1 (cM iv 0 []) rfl rfl) (Sub.toL (by rw [f0, i0]; exact (by simp only [go_sem] <;> first | trivial | (simp only [Option.some.injEq, AV.v.injEq, AV.own.injEq, AV.list.injEq, Value.int.injEq, Value.bool.injEq, true_and, and_true]; first | omega | (simp; done)) | (simp; done) | (simp; omega))) (by rw [f0]; unfold exH exR; simp only [Hp.scrub_upd, Hp.scrub_emp, Blk.scrub_mp, mS_scrub_iv, Blk.scrub_cells, scF_vecF, List.map_cons, List.map_nil, AV.scrub, Nat.reduceBEq, Bool.false_eq_true, if_false]; repeat' (first | exact Hp.le_emp _ | refine Hp.le_upd rfl ?_)))) ?_
    intro t ht
    obtain ⟨hq, hqd⟩ := hit t ht
    have hws := B.wrd_succ (lets p.m.length) (lsP p).length k t
    have hwl := B.wrd_length (lets p.m.length) (lsP p).length k t
    have his : B.itr (lsP p).length k (t + 1) = B.fnx (lsP p).length (B.itr (lsP p).length k t) := rfl
    obtain ⟨q, hqe⟩ : ∃ q, q = B.itr (lsP p).length k t := ⟨_, rfl⟩
    rw [← hqe] at hq hqd hws his ⊢
    have hc := hcl hq
    have hf := hfs hq
    have hl1 : 0 < B.dp.getD q 0 → 0 < (B.clF (lets p.m.length) q (lsP p).length).length ∧ 0 < (B.clS q (lsP p).length).length := fun h => by
      rw [clF_cls, clS_cls]; have := (hf h).2.2.1; exact ⟨this, this⟩
    clear hit hcl hfs hn
    unfold exH exR
    repeat' (first | refine awp_seqK fun K hK => ?_ | (refine awp_regionK 16843251 rfl ?_; simp only [List.map_cons, List.map_nil]; simp (maxSteps := 1000000) (dsimp := false) (implicitDefEqProofs := false) (disch := omega) only [wrap64, go_sem]) | (refine awp_regionQK 16843251 (by kernel_rfl) (by kernel_rfl) (by kernel_rfl) ?_; simp only [List.map_cons, List.map_nil]; simp (maxSteps := 1000000) (dsimp := false) (implicitDefEqProofs := false) (disch := omega) only [wrap64, go_sem]) | refine awp_block ?_ | (refine awp_skip ?_; simp only [go_sem]) | (refine awp_exit ?_; simp only [go_sem]) | (refine awp_ret ?_; try simp only [go_sem]) | (refine awp_condP rfl ?_; try simp only [go_sem]) | (refine BrP.mk (fun h => ?_) (fun h => ?_) <;> try simp (dsimp := false) (disch := omega) only [wrap64]) | (refine Br.mk (fun h => ?_) (fun h => ?_) <;> try simp (dsimp := false) (disch := omega) only [wrap64]) | refine Ob.mk (by first | omega | (intro _ _; rfl) | trivial | (intros; trivial) | assumption | (intro i hi; have h0 : i = 0 := (by omega); subst h0; first | rfl | trivial) | (intro i hi; have h0 : i = 0 ∨ i = 1 := (by omega); rcases h0 with rfl | rfl <;> rfl) | (intro i hi; have h0 : i = 0 ∨ i = 1 ∨ i = 2 := (by omega); rcases h0 with rfl | rfl | rfl <;> rfl)) ?_ | ((first | ((first | refine atF (f := 60) ?_ | refine atQ (f := 60) ?_); (refine callEx (p := p) (B := B) (by omega) (by unfold exH exR; repeat' (first | exact Hp.le_emp _ | refine Hp.le_upd rfl ?_)) hc rfl (fun q h => tup2_own q h) ?_))); simp (maxSteps := 1000000) (dsimp := false) (implicitDefEqProofs := false) (disch := omega) only [wrap64, go_sem]) | apply_assumption -exfalso -symm)
    all_goals (first | (show endQ _ _ _ _ _ _ _; (repeat (rename (∀ (A : Fr) (H : Hp), AWP _ _ _ _ A H → _) => hK; clear hK)); (repeat (rename (Fr → Hp → Prop) => K; clear K))) | (show Exists _; (repeat (rename (∀ (A : Fr) (H : Hp), AWP _ _ _ _ A H → _) => hK; clear hK)); (repeat (rename (Fr → Hp → Prop) => K; clear K))) | skip)
    · obtain ⟨hf1, hf2, hf3, hf4, hf5⟩ := hf (by assumption)
      have e1 : (B.clS q (lsP p).length).getD (Int.toNat 0) 0 = ((B.fnx (lsP p).length q : Nat) : Int) := by
        rw [show Int.toNat 0 = 0 from rfl, Bf.clS_0 hf3]
        exact (Int.toNat_of_nonneg (hnx hq hf1).1).symm
      have e2 : (B.clF (lets p.m.length) q (lsP p).length).getD (Int.toNat 0) 0 = (lets p.m.length).getD (B.fst (lsP p).length q) 0 := by
        rw [show Int.toNat 0 = 0 from rfl]
        exact Bf.clF_0 hf3
      refine ⟨t + 1, by omega, by omega, ?_⟩
      rw [hws, his, e1, e2]
      exact Sub.toL (by simp only [go_sem] <;> first | trivial | (simp only [Option.some.injEq, AV.v.injEq, AV.own.injEq, AV.list.injEq, Value.int.injEq, Value.bool.injEq, true_and, and_true]; first | omega | (simp; done)) | (simp; done) | (simp; omega)) (by (repeat' (first | exact Hp.le_emp _ | exact Hp.le_refl _ | refine Hp.le_upd ?_ ?_)); all_goals (first | rfl | (simp only [go_sem]; first | rfl | (refine cellsE ?_ ?_ <;> (simp)) | (simp))))
    · have e : (B.dp.getD k 0).toNat = t := by omega
      have e2 : wdB p B k = B.wrd (lets p.m.length) (lsP p).length k t := by unfold wdB; rw [e]
      rw [hy (by assumption), e2]
      refine end_tup2 rfl (by decide) (Sub.toL (by simp only [go_sem] <;> first | trivial | (simp only [Option.some.injEq, AV.v.injEq, AV.own.injEq, AV.list.injEq, Value.int.injEq, Value.bool.injEq, true_and, and_true]; first | omega | (simp; done)) | (simp; done) | (simp; omega)) (Hp.le_refl _)) ⟨rfl, rfl⟩
theorem XA_isSt {p : Pz} (h : (XS p).isSome = true) {s : List Int} (hs : s ∈ (XA p).st) : isSt p s := by
  have hz := (XA_whole h).1
  have h1 := ((XA_mem h s).1 hs).pm (lsP_pm hz)
  have hn := hz.n
  exact ⟨hz, by rw [h1.1]; omega, (isPerm_pm _).2 ⟨by rw [h1.1]; omega, by rw [h1.1]; exact h1⟩⟩
noncomputable def owP (p : Pz) (s : List Int) : List Int × Bool := if 0 ≤ dstP p s ∧ ¬ dstP p s > 200 then (wdB p (XA p) ((XA p).st.idxOf s), true) else ([], false)
theorem ow_eq {p : Pz} {s : List Int} (h1 : (XS p).isSome = true) (h : isSt p s ∧ s ∈ (XA p).st) : owP p s = ((owB p (XA p) ((XA p).st.idxOf s)).1, (owB p (XA p) ((XA p).st.idxOf s)).2) := by
  have h2 := dst_yes h1 h
  have h3 := dst_eq h2
  unfold owP owB
  rw [← h3]
  by_cases e : dstP p s > 200
  · rw [if_neg (fun k => k.2 e), if_pos e]
  · rw [if_pos ⟨h2, e⟩, if_neg e]
theorem ow_no {p : Pz} {s : List Int} (h : ¬ 0 ≤ dstP p s) : owP p s = ([], false) := if_neg fun k => h k.1
theorem implOptimalWord_ok (p : Pz) (s : List Int) (hs0 : p.s.size ≤ 140737488355328) (d : Nat) : AC Try.prog 16 [pz p, ints s] Hp.emp (fun _ => false) (retIB d (owP p s).1 (owP p s).2) := by
  have hc := fun (h : (XS p).isSome = true) (k : isSt p s ∧ s ∈ (XA p).st) => optimalWord_ok p (XA p) _ (XA_whole h).1 (XA_whole h).2.1 (XA_whole h).2.2 (List.idxOf_lt_length_iff.2 k.2)
  have hfd := fun k : isSt p s ∧ s ∈ (XA p).st => fdI_yes k
  refine ac_of_awp (N := ⟨_, fun _ => false, fun _ _ => rfl⟩) Try.func16 rfl (by kernel_rfl) Try.ntmps16 (by simp) ?_
  simp only [argsFr, List.zipIdx_cons, List.zipIdx_nil, go_sem]
  repeat' (first | ((first | refine atF (f := 51) ?_ | refine atQ (f := 51) ?_); refine callS3 (exploreState_ok p s hs0) rfl (fun hX => ?_) (fun hX => ?_) <;> simp (maxSteps := 1000000) (dsimp := false) (implicitDefEqProofs := false) (disch := omega) only [wrap64, go_sem, pM_low]) | refine awp_seqK fun K hK => ?_ | (refine awp_regionK 131575 rfl ?_; simp only [List.map_cons, List.map_nil]; simp (maxSteps := 1000000) (dsimp := false) (implicitDefEqProofs := false) (disch := omega) only [wrap64, go_sem, pM_low]) | (refine awp_regionQK 131575 (by kernel_rfl) (by kernel_rfl) (by kernel_rfl) ?_; simp only [List.map_cons, List.map_nil]; simp (maxSteps := 1000000) (dsimp := false) (implicitDefEqProofs := false) (disch := omega) only [wrap64, go_sem, pM_low]) | refine awp_block ?_ | (refine awp_skip ?_; simp only [go_sem, pM_low]) | (refine awp_exit ?_; simp only [go_sem, pM_low]) | (refine awp_ret ?_; try simp only [go_sem, pM_low]) | (refine awp_condP rfl ?_; try simp only [go_sem, pM_low]) | (refine BrP.mk (fun h => ?_) (fun h => ?_) <;> try simp (dsimp := false) (disch := omega) only [wrap64]) | (refine Br.mk (fun h => ?_) (fun h => ?_) <;> try simp (dsimp := false) (disch := omega) only [wrap64]) | refine Ob.mk (by first | omega | (intro _ _; rfl) | trivial | (intros; trivial) | assumption | (intro i hi; have h0 : i = 0 := (by omega); subst h0; first | rfl | trivial) | (intro i hi; have h0 : i = 0 ∨ i = 1 := (by omega); rcases h0 with rfl | rfl <;> rfl) | (intro i hi; have h0 : i = 0 ∨ i = 1 ∨ i = 2 := (by omega); rcases h0 with rfl | rfl | rfl <;> rfl)) ?_ | ((first | ((first | refine atF (f := 47) ?_ | refine atQ (f := 47) ?_); (rw [hfd (by assumption)]; refine callEx (by omega) (by unfold exH exR; repeat' (first | exact Hp.le_emp _ | refine Hp.le_upd rfl ?_)) (hc (by assumption) (by assumption)) rfl (fun q h => tup2_ownV q h) ?_))); simp (maxSteps := 1000000) (dsimp := false) (implicitDefEqProofs := false) (disch := omega) only [wrap64, go_sem, pM_low]) | apply_assumption -exfalso -symm)
  all_goals (first | (show endQ _ _ _ _ _ _ _; (repeat (rename (∀ (A : Fr) (H : Hp), AWP _ _ _ _ A H → _) => hK; clear hK)); (repeat (rename (Fr → Hp → Prop) => K; clear K))) | (show Exists _; (repeat (rename (∀ (A : Fr) (H : Hp), AWP _ _ _ _ A H → _) => hK; clear hK)); (repeat (rename (Fr → Hp → Prop) => K; clear K))) | skip)
  · exact end_retIB' rfl rfl rfl rfl (ow_eq (by assumption) (by assumption)) (by decide) rfl rfl
  · exact end_retIB_nil' rfl rfl rfl (ow_no (fun k => absurd (dstP_st k).2 (by assumption))) (by decide) rfl
  · exact end_retIB_nil' rfl rfl rfl (ow_no (fun k => absurd (dstP_st k).1 (by rw [(by assumption : (XS p).isSome = false)]; exact Bool.false_ne_true))) (by decide) rfl
noncomputable def wbP (p : Pz) (a b : List Int) : List Int × Bool := if okB p a b then owP p (comp (invp b) a) else ([], false)
theorem implWordBetween_ok (p : Pz) (a b : List Int) (hs0 : p.s.size ≤ 140737488355328) (d : Nat) : AC Try.prog 13 [pz p, ints a, ints b] Hp.emp (fun _ => false) (retIB d (wbP p a b).1 (wbP p a b).2) := by
  have hc := fun (h : okB p a b) => optimalWord_ok p (XA p) _ (XA_whole h.1).1 (XA_whole h.1).2.1 (XA_whole h.1).2.2 (List.idxOf_lt_length_iff.2 (XA_btw h.1 h.2.2.2.1 h.2.2.2.2))
  have hy : okB p a b → wbP p a b = ((owB p (XA p) ((XA p).st.idxOf (comp (invp b) a))).1, (owB p (XA p) ((XA p).st.idxOf (comp (invp b) a))).2) := fun h => (if_pos h).trans (ow_eq h.1 ⟨btw_st h, XA_btw h.1 h.2.2.2.1 h.2.2.2.2⟩)
  refine ac_of_awp (N := ⟨_, fun _ => false, fun _ _ => rfl⟩) Try.func13 rfl (by kernel_rfl) Try.ntmps13 (by simp) ?_
  simp only [argsFr, List.zipIdx_cons, List.zipIdx_nil, go_sem]
  repeat' (first | ((first | refine atF (f := 46) ?_ | refine atQ (f := 46) ?_); refine callB3 (between_ok p a b hs0) rfl (fun hX => ?_) (fun hX => ?_) <;> simp (maxSteps := 1000000) (dsimp := false) (implicitDefEqProofs := false) (disch := omega) only [wrap64, go_sem, pM_low]) | refine awp_seqK fun K hK => ?_ | (refine awp_regionK 1050575 rfl ?_; simp only [List.map_cons, List.map_nil]; simp (maxSteps := 1000000) (dsimp := false) (implicitDefEqProofs := false) (disch := omega) only [wrap64, go_sem, pM_low]) | (refine awp_regionQK 1050575 (by kernel_rfl) (by kernel_rfl) (by kernel_rfl) ?_; simp only [List.map_cons, List.map_nil]; simp (maxSteps := 1000000) (dsimp := false) (implicitDefEqProofs := false) (disch := omega) only [wrap64, go_sem, pM_low]) | refine awp_block ?_ | (refine awp_skip ?_; simp only [go_sem, pM_low]) | (refine awp_exit ?_; simp only [go_sem, pM_low]) | (refine awp_ret ?_; try simp only [go_sem, pM_low]) | (refine awp_condP rfl ?_; try simp only [go_sem, pM_low]) | (refine BrP.mk (fun h => ?_) (fun h => ?_) <;> try simp (dsimp := false) (disch := omega) only [wrap64]) | (refine Br.mk (fun h => ?_) (fun h => ?_) <;> try simp (dsimp := false) (disch := omega) only [wrap64]) | refine Ob.mk (by first | omega | (intro _ _; rfl) | trivial | (intros; trivial) | assumption | (intro i hi; have h0 : i = 0 := (by omega); subst h0; first | rfl | trivial) | (intro i hi; have h0 : i = 0 ∨ i = 1 := (by omega); rcases h0 with rfl | rfl <;> rfl) | (intro i hi; have h0 : i = 0 ∨ i = 1 ∨ i = 2 := (by omega); rcases h0 with rfl | rfl | rfl <;> rfl)) ?_ | ((first | ((first | refine atF (f := 47) ?_ | refine atQ (f := 47) ?_); refine callEx (by omega) (by unfold exH exR; repeat' (first | exact Hp.le_emp _ | refine Hp.le_upd rfl ?_)) (hc (by assumption)) rfl (fun q h => tup2_ownV q h) ?_)); simp (maxSteps := 1000000) (dsimp := false) (implicitDefEqProofs := false) (disch := omega) only [wrap64, go_sem, pM_low]) | apply_assumption -exfalso -symm)
  all_goals (first | (show endQ _ _ _ _ _ _ _; (repeat (rename (∀ (A : Fr) (H : Hp), AWP _ _ _ _ A H → _) => hK; clear hK)); (repeat (rename (Fr → Hp → Prop) => K; clear K))) | (show Exists _; (repeat (rename (∀ (A : Fr) (H : Hp), AWP _ _ _ _ A H → _) => hK; clear hK)); (repeat (rename (Fr → Hp → Prop) => K; clear K))) | skip)
  · exact end_retIB' rfl rfl rfl rfl (hy (by assumption)) (by decide) rfl rfl
  · exact end_retIB_nil' rfl rfl rfl (if_neg (by assumption)) (by decide) rfl
end Go.Proofs.Ytiihgbobdipikaa
end
