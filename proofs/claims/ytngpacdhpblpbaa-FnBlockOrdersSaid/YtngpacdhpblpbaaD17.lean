import Derived.Test.YtngpacdhpblpbaaD16
import Derived.Test.YtngpacdhpblpbaaD11
import Derived.Test.YtngpacdhpblpbaaD14
/- Block systems, the program: the finest block system with two points in one block. -/
section
namespace Go.Proofs.Ytngpacdhpblpbaa
open Go.Av
set_option linter.unusedSimpArgs false
set_option linter.unusedVariables false
attribute [local irreducible] AWP CallG Ob Br BrP Go.Av.Sub endQ AOps OpV AC thenA blkA opsVC opVC withA withArgs opsQ opQ CallQ withA2 withArgs2
open Go.Pm (Pm ptI partI IsPart ixP Rsp rspI actP img invp mrg Lbl SL SB parts loR clsF clsN partK Cg MB Snd cntL idn Rep)
section
variable {n k z : Nat} {gs : List (List Int)} {L L0 : List Int} {B : Nat → Nat → Prop} {Q Q' : List Int → Prop} {ch : Bool}
end
end Go.Proofs.Ytngpacdhpblpbaa
end
/- Block systems, the program: the join of two partitions. -/
section
namespace Go.Proofs.Ytngpacdhpblpbaa
open Go.Av
set_option linter.unusedSimpArgs false
set_option linter.unusedVariables false
attribute [local irreducible] AWP CallG Ob Br BrP Go.Av.Sub endQ AOps OpV AC thenA blkA opsVC opVC withA withArgs opsQ opQ CallQ withA2 withArgs2
open Go.Pm (Pm ptI partI IsPart ixP Rsp rspI actP img invp mrg Lbl SL SB parts loR clsF clsN partK Cg MB Snd cntL idn Rep)
/-- A row of rows of rows. -/
@[go_sem] def i3 (ws : List (List (List Int))) : AV := .list false 1 ws.length (cM intss [] ws)
@[go_sem] theorem cM_intss (ws : List (List (List Int))) (i : Nat) : cM intss [] ws i = .list false 1 (ws.getD i []).length (cM ints [] (ws.getD i [])) := rfl
section
variable {n i k : Nat} {a b : List (List Int)} {L : List Int}
end
end Go.Proofs.Ytngpacdhpblpbaa
end
/- Block systems: what is drawn. -/
section
namespace Go.Proofs.Ytngpacdhpblpbaa
open Go.Av
set_option linter.unusedSimpArgs false
set_option linter.unusedVariables false
attribute [local irreducible] AWP CallG Ob Br BrP Go.Av.Sub endQ AOps OpV AC thenA blkA opsVC opVC withA withArgs opsQ opQ CallQ withA2 withArgs2
open Go.Pm (Pm ptI partI IsPart ixP Rsp rspI actP img invp mrg Lbl SL SB parts loR clsF clsN partK Cg MB Snd cntL idn Rep)
theorem callPD {P : Program} {N : Cx} {H : Hp} {f : FuncId} {args : List AV} {k : IntKind} {d : Dc} {Q : AV → Prop} {K : AV → (Nat → Bool) → Hp → Prop} (hH : H 1000000 = some (.cells 3 (dF k d))) (hac : AC P f args (DH k d) pM (postD k Q)) (hQ : ∀ r, Q r → ∀ p, r.scrub p = r)
    (hK : ∀ r d', Q r → K r (fun _ => false) (H.upd 1000000 (.cells 3 (dF k d')))) : CallPP P N f args H K :=
  ⟨fun _ => false, fun B => callD hH hac hQ fun r d' hq => ⟨(Fr.scrub_none B).symm, hK r d' hq⟩⟩
theorem suB {d i h : Nat} (hh : h < 2097152) : (sub d i == h) = false := beq_eq_false_iff_ne.2 fun e => by have := sub_ge d i; rw [FB_eq] at this; omega
theorem suE {d i h : Nat} (hh : h < 2097152) : (sub d i = h) = False := eq_false fun e => by have := sub_ge d i; rw [FB_eq] at this; omega
theorem suC {d i h : Nat} (hh : h < 2097152) : (h == sub d i) = false := beq_eq_false_iff_ne.2 fun e => by have := sub_ge d i; rw [FB_eq] at this; omega
theorem suD {d i h : Nat} (hh : h < 2097152) : (h = sub d i) = False := eq_false fun e => by have := sub_ge d i; rw [FB_eq] at this; omega
theorem add50 {P : List (List Int)} {k : Nat} {X : Hp} (h : k < P.length) (hP : P.length ≤ 1000) : ((PR 50 P P.length P.length).add X) (sub 50 k) = some (.cells (P.getD k []).length (cM iv 0 (P.getD k []))) := add_sub (by rw [FB_eq]; omega) h (by rw [FB_eq]; omega)
theorem scr50 {P : List (List Int)} {p : Nat → Bool} {X : Hp} : (((PR 50 P P.length P.length).add X).scrub p) 50 = some (.cells P.length (scF p (mixF 50 P P.length))) := by
  unfold Hp.scrub
  rw [add_self]; rfl
/-- Blocks as they are drawn. -/
def blQ (bs : List (List Int)) : Prop := bs.length ≤ 20 ∧ ∀ j, (bs.getD j []).length ≤ 21
theorem ob21 {P : List (List Int)} (h : Hold (∀ j, (P.getD j []).length ≤ 20)) (j : Nat) : ((P.getD j []).length + 1) * 8 ≤ 140737488355328 := by have := h.h j; omega
theorem ob22 {P : List (List Int)} (h : Hold (∀ j, (P.getD j []).length ≤ 20)) (j : Nat) : (P.getD j []).length + 1 ≤ 140737488355328 := by have := h.h j; omega
theorem fits_fam {H : Hp} {D : Nat → Prop} {d off m K : Nat} {f : Nat → AV} {Q : List (List Int)} (hH : H d = some (.cells K f)) (hD : D d) (hm : off + m ≤ K) (hq : m = Q.length) (hf : ∀ i, i < m → Fits H D (f (off + i)) (ints (Q.getD i []))) : Fits H D (.own d off 1 m) (intss Q) := by
  subst hq
  exact .own hH hD (by omega) (fun i hi => trivial) fun i hi => hf i (by omega)
theorem fits_fr {H : Hp} {D : Nat → Prop} {d k i : Nat} {P : List (List Int)} (hi : i < k) (hH : H (sub d i) = some (.cells (P.getD i []).length (cM iv 0 (P.getD i [])))) (hD : D (sub d i)) : Fits H D (mixF d P k i) (ints (P.getD i [])) := by
  unfold mixF
  rw [if_pos hi]
  exact fits_I hH hD rfl rfl
theorem gro_fits {P : List (List Int)} {k : Nat} {v : Int} {X : Hp} {S Z : Blk} (hk : k < P.length) (hP : P.length ≤ 1000) {H : Hp}
    (eH : H = ((((Hp.scrub (fun x => x == sub 50 k) ((PR 50 P P.length P.length).add X)).upd 1000000 S).upd 46 Z).upd (sub 50 k) (.cells ((P.getD k []).length + 1) (cM iv 0 (P.getD k [] ++ [v])))).upd 50 (.cells P.length (setF (scF (fun x => x == sub 50 k) (mixF 50 P P.length)) k (.own (sub 50 k) 0 1 ((P.getD k []).length + 1))))) :
    H 1000000 = some S ∧ Fits H (fun x => x ≠ 1000000) (.own 50 0 1 P.length) (intss (P.set k (P.getD k [] ++ [v]))) := by
  have s30 : ∀ j, sub 50 j ≠ 50 ∧ sub 50 j ≠ 46 ∧ sub 50 j ≠ 1000000 := fun j => by have := sub_ge 50 j; rw [FB_eq] at this; omega
  subst eH
  refine ⟨?_, fits_fam (K := P.length) (f := setF (scF (fun x => x == sub 50 k) (mixF 50 P P.length)) k (.own (sub 50 k) 0 1 ((P.getD k []).length + 1))) ?_ (by decide) (by omega) (by rw [List.length_set]) fun i hi => ?_⟩
  · have h1 : (1000000 : Nat) ≠ sub 50 k := fun e => (s30 k).2.2 e.symm
    simp only [Hp.upd, if_neg h1]; rfl
  · simp only [Hp.upd, if_true]
  · rw [Nat.zero_add, getD_setL hk]
    show Fits _ _ (if i = k then _ else (mixF 50 P P.length i).scrub _) _
    obtain ⟨n1, n2, n3⟩ := s30 i
    by_cases e : i = k
    · subst e
      rw [if_pos rfl, if_pos rfl]
      refine fits_I ?_ n3 rfl (by rw [List.length_append, List.length_singleton])
      simp only [Hp.upd, if_neg n1, if_true]
    · rw [if_neg e, if_neg e]
      have n4 : sub 50 i ≠ sub 50 k := fun h => e (sub_inj (by omega) (by omega) h)
      have hm : (mixF 50 P P.length i).scrub (fun x => x == sub 50 k) = mixF 50 P P.length i := by
        unfold mixF
        rw [if_pos hi]
        have : (sub 50 i == sub 50 k) = false := beq_eq_false_iff_ne.2 n4
        simp only [AV.scrub, this, Bool.false_eq_true, if_false]
      rw [hm]
      refine fits_fr hi ?_ n3
      simp only [Hp.upd, if_neg n1, if_neg n2, if_neg n3, if_neg n4]
      unfold Hp.scrub
      rw [add50 hi hP]
      simp only [Option.map_some, Blk.scrub]
      congr 2
theorem end_gro {PP : Program} {N : Cx} {A : Fr} {fn : Func} {t : Tmp} {d : Dc} {P : List (List Int)} {k : Nat} {v : Int} {X : Hp} {Z : Blk} (hr : fn.results.toList = [.tmp t]) (hA : A.get t = some (.own 50 0 1 P.length)) (hk : k < P.length) (hP : P.length ≤ 1000) (hq : blQ (P.set k (P.getD k [] ++ [v]))) :
    endQ PP N fn (postD .i64 fun r => ∃ bs, blQ bs ∧ r = intss bs) .ret A (((((Hp.scrub (fun x => x == sub 50 k) ((PR 50 P P.length P.length).add X)).upd 1000000 (.cells 3 (dF .i64 d))).upd 46 Z).upd (sub 50 k) (.cells ((P.getD k []).length + 1) (cM iv 0 (P.getD k [] ++ [v])))).upd 50 (.cells P.length (setF (scF (fun x => x == sub 50 k) (mixF 50 P P.length)) k (.own (sub 50 k) 0 1 ((P.getD k []).length + 1))))) := by
  obtain ⟨f1, f2⟩ := gro_fits (v := v) (X := X) (S := .cells 3 (dF .i64 d)) (Z := Z) hk hP rfl
  exact end_DF (D := fun x => x ≠ 1000000) hr hA f1 f2 (by simp) ⟨_, hq, rfl⟩
theorem nul_fits {P : List (List Int)} {k : Nat} {X : Hp} {S : Blk} {f : Nat → AV} (hk : k < P.length) (hP : P.length ≤ 1000) {H : Hp}
    (eH : H = ((((PR 50 P P.length P.length).add X).upd 1000000 S).upd 53 (.cells 0 f)).upd 50 (.cells P.length (setF (mixF 50 P P.length) k (.own 53 0 1 0)))) :
    Fits H (fun x => x ≠ 1000000) (.own 50 0 1 P.length) (intss (P.set k [])) := by
  have s30 : ∀ j, sub 50 j ≠ 50 ∧ sub 50 j ≠ 53 ∧ sub 50 j ≠ 1000000 := fun j => by have := sub_ge 50 j; rw [FB_eq] at this; omega
  subst eH
  refine fits_fam (K := P.length) (f := setF (mixF 50 P P.length) k (.own 53 0 1 0)) rfl (by decide) (by omega) (by rw [List.length_set]) fun i hi => ?_
  rw [Nat.zero_add, getD_setL hk]
  show Fits _ _ (if i = k then _ else mixF 50 P P.length i) _
  obtain ⟨n1, n2, n3⟩ := s30 i
  by_cases e : i = k
  · rw [if_pos e, if_pos e]
    exact .own (M := 0) (g := f) rfl (by decide) (by omega) (fun j hj => absurd hj (by simp)) (fun j hj => absurd hj (by simp))
  · rw [if_neg e, if_neg e]
    refine fits_fr hi ?_ n3
    simp only [Hp.upd, if_neg n1, if_neg n2, if_neg n3]
    exact add50 hi hP
theorem drp_fits {P : List (List Int)} {X : Hp} {S : Blk} (hP : P.length ≤ 1000) (h0 : 0 < P.length) {H : Hp} (eH : H = ((PR 50 P P.length P.length).add X).upd 1000000 S) :
    Fits H (fun x => x ≠ 1000000) (.own 50 (Int.toNat 1) 1 (P.length - Int.toNat 1)) (intss (P.drop 1)) := by
  subst eH
  refine fits_fam (K := P.length) (f := mixF 50 P P.length) (add_self 50 P P.length P.length X) (by decide) (by show 1 + (P.length - 1) ≤ P.length; omega) (by rw [List.length_drop]; rfl) fun i hi => ?_
  have hi : i < P.length - 1 := hi
  have n3 : sub 50 (1 + i) ≠ 1000000 := by have := sub_ge 50 (1 + i); rw [FB_eq] at this; omega
  have e : (P.drop 1).getD i [] = P.getD (1 + i) [] := by rw [List.getD_eq_getElem?_getD, List.getElem?_drop, ← List.getD_eq_getElem?_getD]
  rw [e]
  refine fits_fr (i := 1 + i) (by omega) ?_ n3
  simp only [Hp.upd, if_neg n3]
  exact add50 (by omega) hP
theorem drawPartition_ok (d : Dc) (n : Int) (hn : r64 n) : AC Try.prog 147 [.ref 1000000 0, .v (.int .i64 (n))] (DH .i64 d) (· == 1000000) (postD .i64 fun r => ∃ bs, blQ bs ∧ r = intss bs) := by
  unfold r64 at hn
  refine ac_of_awp (N := ⟨_, (· == 1000000), fun h hh => beq_eq_false_iff_ne.2 (Nat.ne_of_lt (Nat.lt_of_lt_of_le hh (by decide)))⟩) Try.func147 rfl (by kernel_rfl) Try.ntmps147 (by simp) ?_
  simp only [argsFr, List.zipIdx_cons, List.zipIdx_nil, go_sem]
  unfold DH
  repeat' (first | refine awp_seqK fun K hK => ?_ | (refine awp_regionK 36591850588479987 rfl ?_; simp only [List.map_cons, List.map_nil]; simp (maxSteps := 1000000) (dsimp := false) (implicitDefEqProofs := false) (disch := omega) only [wrap64, go_sem]) | (refine awp_regionQK 36591850588479987 (by kernel_rfl) (by kernel_rfl) (by kernel_rfl) ?_; simp only [List.map_cons, List.map_nil]; simp (maxSteps := 1000000) (dsimp := false) (implicitDefEqProofs := false) (disch := omega) only [wrap64, go_sem]) | refine awp_block ?_ | (refine awp_skip ?_; simp only [go_sem]) | (refine awp_exit ?_; simp only [go_sem]) | (refine awp_ret ?_; try simp only [go_sem]) | (refine awp_condP rfl ?_; try simp only [go_sem]) | (refine BrP.mk (fun h => ?_) (fun h => ?_) <;> try simp (dsimp := false) (disch := omega) only [wrap64]) | (refine Br.mk (fun h => ?_) (fun h => ?_) <;> try simp (dsimp := false) (disch := omega) only [wrap64]) | refine Ob.mk (by first | omega | (intro _ _; rfl) | trivial | (intros; trivial) | assumption | (intro i hi; have h0 : i = 0 := (by omega); subst h0; first | rfl | trivial) | (intro i hi; have h0 : i = 0 ∨ i = 1 := (by omega); rcases h0 with rfl | rfl <;> rfl) | (intro i hi; have h0 : i = 0 ∨ i = 1 ∨ i = 2 := (by omega); rcases h0 with rfl | rfl | rfl <;> rfl)) ?_ | apply_assumption -exfalso -symm)
  all_goals (first | (show endQ _ _ _ _ _ _ _; (repeat (rename (∀ (A : Fr) (H : Hp), AWP _ _ _ _ A H → _) => hK; clear hK)); (repeat (rename (Fr → Hp → Prop) => K; clear K))) | (show Exists _; (repeat (rename (∀ (A : Fr) (H : Hp), AWP _ _ _ _ A H → _) => hK; clear hK)); (repeat (rename (Fr → Hp → Prop) => K; clear K))) | skip)
  refine awp_loop (ι := List Int × Dc) (fun z => [(6, .v (.int .i64 (z.1.length))), (5, .own 9 0 1 z.1.length), (0, .ref 1000000 0), (1, .v (.int .i64 (n)))]) (fun z => (Hp.emp.upd 1000000 (.cells 3 (dF .i64 z.2))).upd 9 (.cells z.1.length (cM iv 0 z.1))) (fun z => z.1.length ≤ 20) (fun z => 20 - z.1.length) ([], d) (Nat.zero_le _) (Sub.toL (by simp only [go_sem] <;> first | trivial | (simp only [Option.some.injEq, AV.v.injEq, AV.own.injEq, AV.list.injEq, Value.int.injEq, Value.bool.injEq, true_and, and_true]; first | omega | (simp; done)) | (simp; done) | (simp; omega)) (by (repeat' (first | exact Hp.le_emp _ | exact Hp.le_refl _ | refine Hp.le_upd ?_ ?_)); all_goals (first | rfl | (simp only [go_sem]; first | rfl | (refine cellsE ?_ ?_ <;> (simp)) | (simp))))) ?_
  rintro ⟨L, d1⟩ hL
  dsimp only at hL ⊢
  repeat' (first | ((first | refine atF (f := 129) ?_ | refine atQ (f := 129) ?_); (refine callD (by rfl) (sBelowP_ok _ _ (by omega)) (by rintro _ ⟨v, _, rfl⟩ _; rfl) (fun r d2 hq => ?_); obtain ⟨v2, hv2, rfl⟩ := hq) <;> simp (maxSteps := 1000000) (dsimp := false) (implicitDefEqProofs := false) (disch := omega) only [wrap64, go_sem]) | refine awp_seqK fun K hK => ?_ | (refine awp_regionK 36591850588479987 rfl ?_; simp only [List.map_cons, List.map_nil]; simp (maxSteps := 1000000) (dsimp := false) (implicitDefEqProofs := false) (disch := omega) only [wrap64, go_sem]) | (refine awp_regionQK 36591850588479987 (by kernel_rfl) (by kernel_rfl) (by kernel_rfl) ?_; simp only [List.map_cons, List.map_nil]; simp (maxSteps := 1000000) (dsimp := false) (implicitDefEqProofs := false) (disch := omega) only [wrap64, go_sem]) | refine awp_block ?_ | (refine awp_skip ?_; simp only [go_sem]) | (refine awp_exit ?_; simp only [go_sem]) | (refine awp_ret ?_; try simp only [go_sem]) | (refine awp_condP rfl ?_; try simp only [go_sem]) | (refine BrP.mk (fun h => ?_) (fun h => ?_) <;> try simp (dsimp := false) (disch := omega) only [wrap64]) | (refine Br.mk (fun h => ?_) (fun h => ?_) <;> try simp (dsimp := false) (disch := omega) only [wrap64]) | refine Ob.mk (by first | omega | (intro _ _; rfl) | trivial | (intros; trivial) | assumption | (intro i hi; have h0 : i = 0 := (by omega); subst h0; first | rfl | trivial) | (intro i hi; have h0 : i = 0 ∨ i = 1 := (by omega); rcases h0 with rfl | rfl <;> rfl) | (intro i hi; have h0 : i = 0 ∨ i = 1 ∨ i = 2 := (by omega); rcases h0 with rfl | rfl | rfl <;> rfl)) ?_ | apply_assumption -exfalso -symm)
  all_goals (first | (show endQ _ _ _ _ _ _ _; (repeat (rename (∀ (A : Fr) (H : Hp), AWP _ _ _ _ A H → _) => hK; clear hK)); (repeat (rename (Fr → Hp → Prop) => K; clear K))) | (show Exists _; (repeat (rename (∀ (A : Fr) (H : Hp), AWP _ _ _ _ A H → _) => hK; clear hK)); (repeat (rename (Fr → Hp → Prop) => K; clear K))) | skip)
  · refine ⟨(L ++ [v2], d2), by dsimp only; rw [List.length_append, List.length_singleton]; omega, by dsimp only; rw [List.length_append, List.length_singleton]; omega, Sub.toL (by simp only [go_sem] <;> first | trivial | (simp only [Option.some.injEq, AV.v.injEq, AV.own.injEq, AV.list.injEq, Value.int.injEq, Value.bool.injEq, true_and, and_true]; first | omega | (simp; done)) | (simp; done) | (simp; omega)) (by (repeat' (first | exact Hp.le_emp _ | exact Hp.le_refl _ | refine Hp.le_upd ?_ ?_)); all_goals (first | rfl | (simp only [go_sem]; first | rfl | (refine cellsE ?_ ?_ <;> (simp)) | (simp))))⟩
  · have hlb := specLabelsToBlocks_ok L (by omega) 50 (by omega)
    obtain ⟨P, eP⟩ : ∃ P, P = partK L.length (SL L) L.length := ⟨_, rfl⟩
    have hPl : P.length ≤ 20 := by rw [eP]; exact Nat.le_trans (Go.Pm.partK_len L.length (SL L) L.length) hL
    have hPr : Hold (∀ j, (P.getD j []).length ≤ 20) := ⟨fun j => by
      by_cases hj : j < P.length
      · have hm := Go.Pm.getD_mem (b := []) hj
        obtain ⟨b, eb⟩ : ∃ b, b = P.getD j [] := ⟨_, rfl⟩
        rw [← eb] at hm ⊢
        rw [eP] at hm
        obtain ⟨y, hy, _, rfl⟩ := Go.Pm.mem_partK.1 hm
        have := Go.Pm.clsF_len (n := L.length) (R := SL L) (x := y)
        omega
      · rw [List.getD_eq_getElem?_getD, List.getElem?_eq_none (by omega)]; exact Nat.zero_le _⟩
    rw [← eP] at hlb
    clear eP
    repeat' (first | (refine Ob.mk (ob21 hPr _) ?_) | (refine Ob.mk (ob22 hPr _) ?_) | ((first | refine atF (f := 129) ?_ | refine atQ (f := 129) ?_); (refine callD (by first | rfl | (simp (disch := omega) only [go_sem, add_lit, Nat.reduceEqDiff, ↓reduceIte])) (sBelowP_ok _ _ (by omega)) (by rintro _ ⟨v, _, rfl⟩ _; rfl) (fun r d3 hq => ?_); obtain ⟨v3, hv3, rfl⟩ := hq) <;> simp (maxSteps := 1000000) (dsimp := false) (implicitDefEqProofs := false) (disch := omega) only [wrap64, go_sem, suB, suE, suC, suD, mixF_lt, add50, scr50]) | ((first | refine atF (f := 60) ?_ | refine atQ (f := 60) ?_); (refine callD (by first | rfl | (simp (disch := omega) only [go_sem, add_lit, Nat.reduceEqDiff, ↓reduceIte])) (oneIn_ok _ _ (by omega)) (by rintro _ ⟨v, _, rfl⟩ _; rfl) (fun r d4 hq => ?_); obtain ⟨v4, hv4, rfl⟩ := hq) <;> simp (maxSteps := 1000000) (dsimp := false) (implicitDefEqProofs := false) (disch := omega) only [wrap64, go_sem, suB, suE, suC, suD, mixF_lt, add50, scr50]) | (refine atP (f := 143) ?_; (refine callPD (by first | rfl | (simp (disch := omega) only [go_sem, add_lit, Nat.reduceEqDiff, ↓reduceIte])) (numberUpTo_ok _ _ (by omega)) (by rintro _ ⟨v, _, rfl⟩ _; rfl) (fun r d6 hq => ?_); obtain ⟨v6, hv6, rfl⟩ := hq) <;> simp (maxSteps := 1000000) (dsimp := false) (implicitDefEqProofs := false) (disch := omega) only [wrap64, go_sem, suB, suE, suC, suD, mixF_lt, add50, scr50]) | (refine awp_regionSK (id := 11) 36591850588479987 [0,1,2,3,4,5,6] [7,8,9,10,11] [38,39,40,41,42,43,44,7,8,0] [0,1,2,3,4,6] [38,39,40,41,42,44,7,8,0] 2 ((Hp.emp.upd 50 (.cells P.length (mixF 50 P P.length)))) (by kernel_rfl) (by kernel_rfl) (by kernel_rfl) ?_; simp only [List.map_cons, List.map_nil, List.take_succ_cons, List.take_zero, List.drop_succ_cons, List.drop_zero, List.cons_append, List.nil_append, opsS, pickL, linkS_nil, linkS_0, linkS_1, linkS_2, gx2VC, gxVC, upd_add, emp_add]; simp (maxSteps := 1000000) (dsimp := false) (implicitDefEqProofs := false) (disch := omega) only [upd_add, emp_add, wrap64, go_sem, suB, suE, suC, suD, mixF_lt, add50, scr50]) | refine Ob.mk (AllH.mk fun _ => ?_) ?_ | exact True.intro | refine obLe ?_ ?_ | exact Hp.le_emp _ | refine Hp.le_upd rfl ?_ | refine awp_seqK fun K hK => ?_ | (refine awp_regionK 36591850588479987 rfl ?_; simp only [List.map_cons, List.map_nil]; simp (maxSteps := 1000000) (dsimp := false) (implicitDefEqProofs := false) (disch := omega) only [wrap64, go_sem, suB, suE, suC, suD, mixF_lt, add50, scr50]) | (refine awp_regionQK 36591850588479987 (by kernel_rfl) (by kernel_rfl) (by kernel_rfl) ?_; simp only [List.map_cons, List.map_nil]; simp (maxSteps := 1000000) (dsimp := false) (implicitDefEqProofs := false) (disch := omega) only [wrap64, go_sem, suB, suE, suC, suD, mixF_lt, add50, scr50]) | refine awp_block ?_ | (refine awp_skip ?_; simp only [go_sem, suB, suE, suC, suD, mixF_lt, add50, scr50]) | (refine awp_exit ?_; simp only [go_sem, suB, suE, suC, suD, mixF_lt, add50, scr50]) | (refine awp_ret ?_; try simp only [go_sem, suB, suE, suC, suD, mixF_lt, add50, scr50]) | (refine awp_condP rfl ?_; try simp only [go_sem, suB, suE, suC, suD, mixF_lt, add50, scr50]) | (refine BrP.mk (fun h => ?_) (fun h => ?_) <;> try simp (dsimp := false) (disch := omega) only [wrap64]) | (refine Br.mk (fun h => ?_) (fun h => ?_) <;> try simp (dsimp := false) (disch := omega) only [wrap64]) | refine Ob.mk (by first | omega | (intro _ _; rfl) | trivial | (intros; trivial) | assumption | (intro i hi; have h0 : i = 0 := (by omega); subst h0; first | rfl | trivial) | (intro i hi; have h0 : i = 0 ∨ i = 1 := (by omega); rcases h0 with rfl | rfl <;> rfl) | (intro i hi; have h0 : i = 0 ∨ i = 1 ∨ i = 2 := (by omega); rcases h0 with rfl | rfl | rfl <;> rfl)) ?_ | ((first | ((first | refine atF (f := 104) ?_ | refine atQ (f := 104) ?_); (refine cII (hac := hlb) (hK := ?_) (hpn := fun h hh => by cases e : (h == 1000000) with | false => exact e | true => rw [beq_iff_eq] at e; rw [e, famB_low (by rw [FB_eq]; decide) (by decide)] at hh; cases hh)))); simp (maxSteps := 1000000) (dsimp := false) (implicitDefEqProofs := false) (disch := omega) only [wrap64, go_sem, suB, suE, suC, suD, mixF_lt, add50, scr50]) | apply_assumption -exfalso -symm)
    all_goals (first | (show endQ _ _ _ _ _ _ _; (repeat (rename (∀ (A : Fr) (H : Hp), AWP _ _ _ _ A H → _) => hK; clear hK)); (repeat (rename (Fr → Hp → Prop) => K; clear K))) | (show Exists _; (repeat (rename (∀ (A : Fr) (H : Hp), AWP _ _ _ _ A H → _) => hK; clear hK)); (repeat (rename (Fr → Hp → Prop) => K; clear K))) | skip)
    · refine end_gro rfl rfl ?_ (by omega) ⟨by rw [List.length_set]; exact hPl, fun j => ?_⟩
      · omega
      rw [getD_setL (by omega)]
      split
      · rename_i e; rw [← e]; have := hPr.h j; rw [List.length_append, List.length_singleton]; omega
      · have := hPr.h j; omega
    · refine end_DF (D := fun x => x ≠ 1000000) rfl rfl rfl (nul_fits (by omega) (by omega) rfl) (by simp) ⟨_, ⟨by rw [List.length_set]; exact hPl, fun j => ?_⟩, rfl⟩
      rw [getD_setL (by omega)]
      split
      · simp
      · have := hPr.h j; omega
    · refine end_DF (D := fun x => x ≠ 1000000) rfl rfl rfl (drp_fits (by omega) (by omega) rfl) (by simp) ⟨_, ⟨by rw [List.length_drop]; omega, fun j => ?_⟩, rfl⟩
      have := hPr.h (1 + j)
      rw [List.getD_eq_getElem?_getD, List.getElem?_drop, ← List.getD_eq_getElem?_getD]; omega
    · omega
    all_goals
      refine end_DF (D := fun x => x ≠ 1000000) rfl rfl rfl (fits_RR (HasRR.upd (by decide) (by decide) (HasRR.base (by omega) (by omega))) (by decide) (fun i => ?_) rfl) (by simp) ⟨P, ⟨hPl, fun j => by have := hPr.h j; omega⟩, rfl⟩
      have := sub_ge 50 i; rw [FB_eq] at this; omega
theorem callD1 {P : Program} {N : Cx} {A : Fr} {H : Hp} {f : FuncId} {args : List AV} {k : IntKind} {d : Dc} {Q : AV → Prop} {pn : Nat → Bool} {K : AV → Fr → Hp → Prop} (hH : H 1000000 = some (.cells 3 (dF k d))) (hp : pn 1000000 = true) (hac : AC P f args (DH k d) pn (postD k Q)) (hQ : ∀ r, Q r → ∀ p, r.scrub p = r)
    (hK : ∀ r d', Q r → K r A (H.upd 1000000 (.cells 3 (dF k d')))) : CallG P N f args A H K := by
  have hle : Hp.le (DH k d) H := Hp.le_upd hH (Hp.le_emp _)
  have hpm : ∀ h, DH k d h ≠ none → h = 1000000 := fun h hn => by
    unfold DH Hp.upd at hn
    by_cases e : h = 1000000
    · exact e
    · rw [if_neg e] at hn; exact absurd rfl hn
  refine callG_of hac (fun _ => false) false hle (FitsL.refl _) (fun _ => rfl) (fun h hn _ => by rw [hpm h hn]; exact hp) (by simp) ?_
  rintro r H' ⟨d', hq, rfl⟩
  have hsame : ∀ h, DH k d' h ≠ none → h = 1000000 := fun h hn => by
    unfold DH Hp.upd at hn
    by_cases e : h = 1000000
    · exact e
    · rw [if_neg e] at hn; exact absurd rfl hn
  refine ⟨fun h h1 h2 => ?_, by simp, ?_⟩
  · rw [hsame h h1] at h2; exact absurd h2 (by unfold DH Hp.upd; simp)
  rw [hQ r hq, Fr.scrub_none, Hp.scrub_none]
  have e : Hp.over ((DH k d').scrub fun h => !liveB (DH k d') h) H (DH k d) = H.upd 1000000 (.cells 3 (dF k d')) := by
    unfold DH
    rw [Hp.scrub_upd, Blk.scrub_cells, scF_dF]
    funext h
    unfold Hp.over Hp.upd
    by_cases e : h = 1000000
    · simp only [if_pos e]
    · simp only [if_neg e]
      simp [Hp.scrub, Hp.emp]
  rw [e]; exact hK r d' hq
theorem end_D3 {P : Program} {N : Cx} {A : Fr} {H : Hp} {k : IntKind} {fn : Func} {t u v : Tmp} {d : Dc} {a b c : AV} {Q : AV → Prop} (hr : fn.results.toList = [.tmp t, .tmp u, .tmp v]) (htu : t ≠ u) (htv : t ≠ v) (huv : u ≠ v) (hA : A.get t = some a) (hB : A.get u = some b) (hC : A.get v = some c) (hd : H 1000000 = some (.cells 3 (dF k d))) (hq : Q (.tup 3 (vecF [a, b, c]))) : endQ P N fn (postD k Q) .ret A H :=
  end_tup3 (H' := DH k d) hr htu htv huv (Sub.toFF (fun _ => False) (Fr.fit_cons hA (.refl _) (Fr.fit_cons hB (.refl _) (Fr.fit_cons hC (.refl _) (Fr.fit_nil _)))) (leF_upd hd (.refl _ _ _) leF_emp id)) ⟨d, hq, rfl⟩
theorem specMinimalBlocksI_ok (n : Int) (gs : List (List Int)) (x y : Int) (hok : isGens n gs) (hx : 0 ≤ x ∧ x < n) (hy : 0 ≤ y ∧ y < n) : AC Try.prog 95 [.v (.int .i64 (n)), intss gs, .v (.int .i64 (x)), .v (.int .i64 (y))] Hp.emp (fun _ => false) (retV (intss (parts (Cg gs (bbP x.toNat y.toNat)) n.toNat))) := by
  obtain ⟨_, h2, h3⟩ := gens_pm hok
  have hA := specMinimalBlocks_ok n.toNat gs x.toNat y.toNat (by rw [show ((n.toNat : Nat) : Int) = n by omega]; exact hok) (by omega) (by omega)
  rwa [show ((n.toNat : Nat) : Int) = n by omega, show ((x.toNat : Nat) : Int) = x by omega, show ((y.toNat : Nat) : Int) = y by omega] at hA
theorem parts_bl {n : Nat} (hn : n ≤ 20) (R : Nat → Nat → Prop) : blQ (parts R n) := by
  refine ⟨Nat.le_trans (Go.Pm.partK_len n R n) hn, fun j => ?_⟩
  by_cases hj : j < (parts R n).length
  · have hm := Go.Pm.getD_mem (b := []) hj
    obtain ⟨b, eb⟩ : ∃ b, b = (parts R n).getD j [] := ⟨_, rfl⟩
    rw [← eb] at hm ⊢
    obtain ⟨y, hy, _, rfl⟩ := Go.Pm.mem_partK.1 hm
    have := Go.Pm.clsF_len (n := n) (R := R) (x := y)
    omega
  · rw [List.getD_eq_getElem?_getD, List.getElem?_eq_none (by omega)]; exact Nat.zero_le _
theorem drawBlocks_ok (d : Dc) : AC Try.prog 87 [.ref 1000000 0] (DH .i64 d) pM (postD .i64 fun r => ∃ q : Int × List (List Int) × List (List Int), (grQ q.1 q.2.1 ∧ blQ q.2.2) ∧ r = .tup 3 (vecF [.v (.int .i64 (q.1)), intss q.2.1, intss q.2.2])) := by
  refine ac_of_awp (N := ⟨_, pM, fun h hh => pM_low (Nat.lt_of_lt_of_le hh (by decide))⟩) Try.func87 rfl (by kernel_rfl) Try.ntmps87 (by simp) ?_
  simp only [argsFr, List.zipIdx_cons, List.zipIdx_nil, go_sem]
  unfold DH
  repeat' (first | ((first | refine atF (f := 82) ?_ | refine atQ (f := 82) ?_); (refine callD (by rfl) (drawGroup_ok _) (by rintro _ ⟨v, _, rfl⟩ p; simp only [scrub_tup, scF_vecF, List.map_cons, List.map_nil]; rfl) (fun r d1 hq => ?_); obtain ⟨⟨n, gs⟩, hg, rfl⟩ := hq) <;> simp (maxSteps := 1000000) (dsimp := false) (implicitDefEqProofs := false) (disch := omega) only [wrap64, go_sem]) | ((first | refine atF (f := 60) ?_ | refine atQ (f := 60) ?_); (refine callD (by rfl) (oneIn_ok _ _ (by omega)) (by rintro _ ⟨v, _, rfl⟩ _; rfl) (fun r d3 hq => ?_); obtain ⟨v3, hv3, rfl⟩ := hq) <;> simp (maxSteps := 1000000) (dsimp := false) (implicitDefEqProofs := false) (disch := omega) only [wrap64, go_sem]) | ((first | refine atF (f := 129) ?_ | refine atQ (f := 129) ?_); (refine callD (by rfl) (sBelowP_ok _ n (by have := (show isGens n gs by assumption).1; omega)) (by rintro _ ⟨v, _, rfl⟩ _; rfl) (fun r d5 hq => ?_); obtain ⟨v5, hv5, rfl⟩ := hq) <;> simp (maxSteps := 1000000) (dsimp := false) (implicitDefEqProofs := false) (disch := omega) only [wrap64, go_sem]) | ((first | refine atF (f := 147) ?_ | refine atQ (f := 147) ?_); (refine callD1 (by rfl) rfl (drawPartition_ok _ n hg.1) (by rintro _ ⟨v, _, rfl⟩ p; rfl) (fun r d6 hq => ?_); obtain ⟨bs, hbs, rfl⟩ := hq) <;> simp (maxSteps := 1000000) (dsimp := false) (implicitDefEqProofs := false) (disch := omega) only [wrap64, go_sem]) | refine awp_seqK fun K hK => ?_ | (refine awp_regionK 524413 rfl ?_; simp only [List.map_cons, List.map_nil]; simp (maxSteps := 1000000) (dsimp := false) (implicitDefEqProofs := false) (disch := omega) only [wrap64, go_sem]) | (refine awp_regionQK 524413 (by kernel_rfl) (by kernel_rfl) (by kernel_rfl) ?_; simp only [List.map_cons, List.map_nil]; simp (maxSteps := 1000000) (dsimp := false) (implicitDefEqProofs := false) (disch := omega) only [wrap64, go_sem]) | refine awp_block ?_ | (refine awp_skip ?_; simp only [go_sem]) | (refine awp_exit ?_; simp only [go_sem]) | (refine awp_ret ?_; try simp only [go_sem]) | (refine awp_condP rfl ?_; try simp only [go_sem]) | (refine BrP.mk (fun h => ?_) (fun h => ?_) <;> try simp (dsimp := false) (disch := omega) only [wrap64]) | (refine Br.mk (fun h => ?_) (fun h => ?_) <;> try simp (dsimp := false) (disch := omega) only [wrap64]) | refine Ob.mk (by first | omega | (intro _ _; rfl) | trivial | (intros; trivial) | assumption | (intro i hi; have h0 : i = 0 := (by omega); subst h0; first | rfl | trivial) | (intro i hi; have h0 : i = 0 ∨ i = 1 := (by omega); rcases h0 with rfl | rfl <;> rfl) | (intro i hi; have h0 : i = 0 ∨ i = 1 ∨ i = 2 := (by omega); rcases h0 with rfl | rfl | rfl <;> rfl)) ?_ | ((first | ((first | refine atF (f := 27) ?_ | refine atQ (f := 27) ?_); (first | (refine cV (hac := specIsGeneratorSet_ok n gs) (hK := ?_)) | (refine cQV (hac := specIsGeneratorSet_ok n gs) (hK := ?_)))) | ((first | refine atF (f := 95) ?_ | refine atQ (f := 95) ?_); (refine cR (hac := specMinimalBlocksI_ok n gs _ _ (by assumption) (by omega) (by omega)) (hK := ?_)))); simp (maxSteps := 1000000) (dsimp := false) (implicitDefEqProofs := false) (disch := omega) only [wrap64, go_sem]) | apply_assumption -exfalso -symm)
  all_goals (first | (show endQ _ _ _ _ _ _ _; (repeat (rename (∀ (A : Fr) (H : Hp), AWP _ _ _ _ A H → _) => hK; clear hK)); (repeat (rename (Fr → Hp → Prop) => K; clear K))) | (show Exists _; (repeat (rename (∀ (A : Fr) (H : Hp), AWP _ _ _ _ A H → _) => hK; clear hK)); (repeat (rename (Fr → Hp → Prop) => K; clear K))) | skip)
  · exact end_D3 rfl (by decide) (by decide) (by decide) rfl rfl rfl rfl ⟨(n, gs, bs), ⟨hg, hbs⟩, rfl⟩
  · exact end_D3 rfl (by decide) (by decide) (by decide) rfl rfl rfl rfl ⟨(n, gs, _), ⟨hg, parts_bl (by have := gens_pm (show isGens n gs by assumption); omega) _⟩, rfl⟩
  · exact end_D3 rfl (by decide) (by decide) (by decide) rfl rfl rfl rfl ⟨(n, gs, bs), ⟨hg, hbs⟩, rfl⟩
theorem drawBlockAction_ok (xs : List Int) (hx : ∀ j, 0 ≤ xs.getD j 0 ∧ xs.getD j 0 ≤ 255) (hl : xs.length ≤ 4096) : AC Try.prog 44 [bts xs] Hp.emp (fun _ => false) (postX fun r => ∃ q : Int × List (List Int) × List (List Int), (grQ q.1 q.2.1 ∧ blQ q.2.2) ∧ r = .tup 3 (vecF [.v (.int .i64 (q.1)), intss q.2.1, intss q.2.2])) := by
  refine ac_of_awp (N := ⟨_, fun _ => false, fun _ _ => rfl⟩) Try.func44 rfl (by kernel_rfl) Try.ntmps44 (by simp) ?_
  simp only [argsFr, List.zipIdx_cons, List.zipIdx_nil, go_sem]
  repeat' (first | ((first | refine atF (f := 58) ?_ | refine atQ (f := 58) ?_); (refine callRoll (newSource_ok xs hx hl) rfl (fun d0 => ?_)) <;> simp (maxSteps := 1000000) (dsimp := false) (implicitDefEqProofs := false) (disch := omega) only [wrap64, go_sem]) | ((first | refine atF (f := 87) ?_ | refine atQ (f := 87) ?_); (refine callD (by rfl) (drawBlocks_ok _) (by rintro _ ⟨v, _, rfl⟩ p; simp only [scrub_tup, scF_vecF, List.map_cons, List.map_nil]; rfl) (fun r d1 hq => ?_); obtain ⟨⟨n, gs, bs⟩, hg, rfl⟩ := hq) <;> simp (maxSteps := 1000000) (dsimp := false) (implicitDefEqProofs := false) (disch := omega) only [wrap64, go_sem]) | refine awp_seqK fun K hK => ?_ | (refine awp_regionK 61 rfl ?_; simp only [List.map_cons, List.map_nil]; simp (maxSteps := 1000000) (dsimp := false) (implicitDefEqProofs := false) (disch := omega) only [wrap64, go_sem]) | (refine awp_regionQK 61 (by kernel_rfl) (by kernel_rfl) (by kernel_rfl) ?_; simp only [List.map_cons, List.map_nil]; simp (maxSteps := 1000000) (dsimp := false) (implicitDefEqProofs := false) (disch := omega) only [wrap64, go_sem]) | refine awp_block ?_ | (refine awp_skip ?_; simp only [go_sem]) | (refine awp_exit ?_; simp only [go_sem]) | (refine awp_ret ?_; try simp only [go_sem]) | (refine awp_condP rfl ?_; try simp only [go_sem]) | (refine BrP.mk (fun h => ?_) (fun h => ?_) <;> try simp (dsimp := false) (disch := omega) only [wrap64]) | (refine Br.mk (fun h => ?_) (fun h => ?_) <;> try simp (dsimp := false) (disch := omega) only [wrap64]) | refine Ob.mk (by first | omega | (intro _ _; rfl) | trivial | (intros; trivial) | assumption | (intro i hi; have h0 : i = 0 := (by omega); subst h0; first | rfl | trivial) | (intro i hi; have h0 : i = 0 ∨ i = 1 := (by omega); rcases h0 with rfl | rfl <;> rfl) | (intro i hi; have h0 : i = 0 ∨ i = 1 ∨ i = 2 := (by omega); rcases h0 with rfl | rfl | rfl <;> rfl)) ?_ | apply_assumption -exfalso -symm)
  all_goals (first | (show endQ _ _ _ _ _ _ _; (repeat (rename (∀ (A : Fr) (H : Hp), AWP _ _ _ _ A H → _) => hK; clear hK)); (repeat (rename (Fr → Hp → Prop) => K; clear K))) | (show Exists _; (repeat (rename (∀ (A : Fr) (H : Hp), AWP _ _ _ _ A H → _) => hK; clear hK)); (repeat (rename (Fr → Hp → Prop) => K; clear K))) | skip)
  exact end_X3 rfl (by decide) (by decide) (by decide) rfl rfl rfl (.refl _) (.refl _) (.refl _) ⟨(n, gs, bs), hg, rfl⟩
end Go.Proofs.Ytngpacdhpblpbaa
end
