import Derived.Test.YticbabpajligbaaDoorH22
import Derived.Test.YticbabpajligbaaDoorH14
import Derived.Test.YticbabpajligbaaDoorH20
import Derived.Test.YticbabpajligbaaDoorH3
/- Drawn syntax trees: w9Tree. -/
section
namespace Go.Proofs.YticbabpajligbaaDoor
open Go.Av
set_option linter.unusedSimpArgs false
set_option linter.unusedVariables false
attribute [local irreducible] AWP CallG Ob Br BrP Go.Av.Sub endQ AOps OpV AC thenA blkA opsVC opVC withA withArgs opsQ opQ CallQ withA2 withArgs2
open Go.Nt (Nd nd0 kd ndOk sz isNt DrI DrS rtN allT)
/-- What is drawn. -/
def treeQ (xs : List Nd) : Prop := isNt 2 xs ∧ (allT fmS ⟨#[65, 66]⟩ xs).size ≤ 168 ∧ (kd xs (xs.length - 1) ≠ [] → (allT fmS ⟨#[65, 66]⟩ xs).size ≤ 167)
def tH (d : Dc) (l : List Nd) (cs : List Int) : Hp := ((hL d l).upd 6 (.cells 6 (vecF [.v (.int .i64 (2)), .v (.int .i64 (0)), .v (.int .i64 (1)), .v (.int .i64 (0)), .v (.int .i64 (0)), .own 31 0 1 cs.length]))).upd 31 (.cells cs.length (cM iv 0 cs))
def rhoT (h : Nat) : Option Nat := if h = 31 then none else if h = 500000 then some 8 else some h
theorem tH_live {d : Dc} {l : List Nd} {cs : List Int} {x : Nat} (h : tH d l cs x ≠ none) : x = 31 ∨ x = 6 ∨ x = 500000 ∨ x = 1000000 := by
  unfold tH hL DH Hp.upd at h
  by_cases e1 : x = 31
  · exact .inl e1
  · rw [if_neg e1] at h
    by_cases e2 : x = 6
    · exact .inr (.inl e2)
    · rw [if_neg e2] at h
      by_cases e3 : x = 500000
      · exact .inr (.inr (.inl e3))
      · rw [if_neg e3] at h
        by_cases e4 : x = 1000000
        · exact .inr (.inr (.inr e4))
        · rw [if_neg e4] at h; exact absurd rfl h
theorem enterT {N : Cx} {A : Fr} {H : Hp} {d : Dc} {n : Int} {F G : Nat → AV} (h7 : A.get 7 = some (.v (.int .i64 (n)))) (h6 : A.get 6 = some (.ref 6 0)) (h5 : A.get 5 = some (.own 8 0 6 0)) (h0 : A.get 0 = some (.ref 1000000 0)) (h1 : A.get 1 = some (.v (.int .i64 (2))))
    (hd : H 1000000 = some (.cells 3 (dF .u64 d))) (hE : H 8 = some (.cells 0 F)) (hG : H 6 = some (.cells 6 G)) (hg : ∀ i, i < 6 → G i = vecF [.v (.int .i64 (2)), .v (.int .i64 (0)), .v (.int .i64 (1)), .v (.int .i64 (0)), .v (.int .i64 (0)), .v (.slice none 0 0)] i) (hpn : N.pn = pM) :
    Sub N A H [(7, .v (.int .i64 (n))), (6, .ref 6 0), (5, .own 500000 0 6 0), (0, .ref 1000000 0), (1, .v (.int .i64 (2)))] (tH d [] []) := by
  refine Sub.layMp rhoT (fun h hh => ?_) (lay_cons ⟨_, h7, .plain trivial⟩ (lay_cons ⟨_, h6, .ref rfl⟩ (lay_cons ⟨_, h5, .own rfl⟩ (lay_cons ⟨_, h0, .ref rfl⟩ (lay_cons ⟨_, h1, .plain trivial⟩ lay_nil))))) (layF_nil rfl (layF_upd (g := 6) (f := G) rfl hG (fun i hi => ?_) (layF_upd (g := 8) (f := F) rfl hE (fun i hi => absurd hi (Nat.not_lt_zero _)) (layF_upd (g := 1000000) rfl hd (fun i hi => ?_) layF_emp)))) (fun x y k hx hy e1 e2 => ?_)
  · rw [hpn] at hh
    have : 1000000 ≤ h := by
      by_cases e : 1000000 ≤ h
      · exact e
      · rw [pM_low (by omega)] at hh; cases hh
    unfold rhoT
    rw [if_neg (by omega), if_neg (by omega)]
  · rw [hg i hi]
    match i, hi with
    | 0, _ => exact .plain trivial
    | 1, _ => exact .plain trivial
    | 2, _ => exact .plain trivial
    | 3, _ => exact .plain trivial
    | 4, _ => exact .plain trivial
    | 5, _ => exact .nil rfl
  · match i, hi with
    | 0, _ => exact .plain trivial
    | 1, _ => exact .plain trivial
    | 2, _ => exact .plain trivial
  · have a := tH_live hx
    have b := tH_live hy
    unfold rhoT at e1 e2
    rcases a with rfl | rfl | rfl | rfl <;> rcases b with rfl | rfl | rfl | rfl <;> simp at e1 e2 <;> omega
theorem backT {N : Cx} {A : Fr} {H : Hp} {d : Dc} {l : List Nd} {cs : List Int} {n : Int} {m : Nat} {F G : Nat → AV} (h7 : A.get 7 = some (.v (.int .i64 (n)))) (h6 : A.get 6 = some (.ref 6 0)) (h5 : A.get 5 = some (.own 500000 0 6 l.length)) (h0 : A.get 0 = some (.ref 1000000 0)) (h1 : A.get 1 = some (.v (.int .i64 (2))))
    (hd : H 1000000 = some (.cells 3 (dF .u64 d))) (hE : H 500000 = some (.cells (l.length * 6) (ndF l))) (hG : H 6 = some (.cells 6 G)) (hg : ∀ i, i < 6 → G i = vecF [.v (.int .i64 (2)), .v (.int .i64 (0)), .v (.int .i64 (1)), .v (.int .i64 (0)), .v (.int .i64 (0)), .own 31 0 1 m] i) (hC : H 31 = some (.cells m F)) (hm : m = cs.length) (hF : ∀ i, i < m → F i = cM iv 0 cs i) :
    Sub N A H [(7, .v (.int .i64 (n))), (6, .ref 6 0), (5, .own 500000 0 6 l.length), (0, .ref 1000000 0), (1, .v (.int .i64 (2)))] (tH d l cs) := by
  subst hm
  exact Sub.toFF (fun _ => False) (Fr.fit_cons h7 (.refl _) (Fr.fit_cons h6 (.refl _) (Fr.fit_cons h5 (.refl _) (Fr.fit_cons h0 (.refl _) (Fr.fit_cons h1 (.refl _) (Fr.fit_nil _)))))) (leF_upd hC (bfE rfl hF) (leF_upd hG (bfE rfl hg) (leF_upd hE (.refl _ _ _) (leF_upd hd (.refl _ _ _) leF_emp id) id) id) id)
theorem fitsT {H : Hp} {l : List Nd} {cs : List Int} {G : Nat → AV} (hH : H 500000 = some (.cells ((l.length + 1) * 6) (apF (l.length * 6) (ndF l) G))) (g : ∀ i, i < 6 → Fits H (fun h => h = 500000 ∨ h = 31) (G i) (vecF (ndC (rtN cs)) i)) :
    Fits H (fun h => h = 500000 ∨ h = 31) (.own 500000 0 6 (l.length + 1)) (nds (l ++ [rtN cs])) := by
  have hl : (l ++ [rtN cs]).length = l.length + 1 := by rw [List.length_append]; rfl
  unfold nds
  rw [hl]
  refine .own hH (.inl rfl) (by omega) (fun j hj => (ndF_plain _ j).1) fun j hj => ?_
  rw [Nat.zero_add]
  by_cases h : j < l.length * 6
  · rw [ndF_lt l _ h]
    show Fits _ _ (if j < l.length * 6 then _ else _) _
    rw [if_pos h]; exact .refl _
  · obtain ⟨i, rfl⟩ : ∃ i, j = l.length * 6 + i := ⟨j - l.length * 6, by omega⟩
    rw [ndF_ge l _ (by omega)]
    show Fits _ _ (if l.length * 6 + i < l.length * 6 then _ else _) _
    rw [if_neg (by omega), Nat.add_sub_cancel_left]
    exact g i (by omega)
theorem tree_q {cs : List Int} {l : List Nd} (hS : DrS fmS ⟨#[65, 66]⟩ 83 21 [] cs l) (hc : cs.length ≤ 2) : treeQ (l ++ [rtN cs]) := by
  obtain ⟨a, b, c, e⟩ := hS.tree (show 1 ≤ (⟨#[65, 66]⟩ : ByteArray).size ∧ (⟨#[65, 66]⟩ : ByteArray).size ≤ 8 from ⟨by decide, by decide⟩) (by omega)
  have hl : (l ++ [rtN cs]).length - 1 = l.length := by rw [List.length_append]; rfl
  refine ⟨a, by omega, fun h => ?_⟩
  rw [hl, b] at h
  have := e h
  omega
theorem w9Tree_ok (d : Dc) : AC Tryd.prog 19 [.ref 1000000 0, .v (.int .i64 (2))] (DH .u64 d) pM (postD .u64 fun r => ∃ xs, treeQ xs ∧ r = nds xs) := by
  have hN : ∀ (d : Dc) (l : List Nd), l.length + 21 ≤ 1000 → AC Tryd.prog 51 [.ref 1000000 0, .own 500000 0 6 l.length, .v (.int .i64 (2))] (hL d l) pM (fun r H' => ∃ d' l', DrI fmS ⟨#[65, 66]⟩ 83 21 l l' ∧ r = .own 500000 0 6 l'.length ∧ H' = hL d' l') := fun d l h => w9Node_ok 2 (Nat.le_refl _) d l h
  have hN := Hold.mk hN
  refine ac_of_awp (N := ⟨_, pM, fun h hh => pM_low (Nat.lt_of_lt_of_le hh (by decide))⟩) Tryd.func19 rfl (by kernel_rfl) Tryd.ntmps19 (by simp) ?_
  simp only [argsFr, List.zipIdx_cons, List.zipIdx_nil, go_sem]
  unfold DH
  repeat' (first | (refine Ob.mk (all6 rfl rfl rfl rfl rfl rfl) ?_) | ((first | refine atF (f := 24) ?_ | refine atQ (f := 24) ?_); (refine callD (by rfl) (dBelow_ok _ _ (by omega)) (by rintro _ ⟨v, _, rfl⟩ _; rfl) (fun r d1 hq => ?_); obtain ⟨v1, hv1, rfl⟩ := hq) <;> simp (maxSteps := 1000000) (dsimp := false) (implicitDefEqProofs := false) (disch := omega) only [wrap64, go_sem, scF_ndW, List.getElem?_cons_zero, List.getElem?_cons_succ]) | refine awp_seqK fun K hK => ?_ | (refine awp_regionK 8435 rfl ?_; simp only [List.map_cons, List.map_nil]; simp (maxSteps := 1000000) (dsimp := false) (implicitDefEqProofs := false) (disch := omega) only [wrap64, go_sem, scF_ndW, List.getElem?_cons_zero, List.getElem?_cons_succ]) | (refine awp_regionQK 8435 (by kernel_rfl) (by kernel_rfl) (by kernel_rfl) ?_; simp only [List.map_cons, List.map_nil]; simp (maxSteps := 1000000) (dsimp := false) (implicitDefEqProofs := false) (disch := omega) only [wrap64, go_sem, scF_ndW, List.getElem?_cons_zero, List.getElem?_cons_succ]) | refine awp_block ?_ | (refine awp_skip ?_; simp only [go_sem, scF_ndW, List.getElem?_cons_zero, List.getElem?_cons_succ]) | (refine awp_exit ?_; simp only [go_sem, scF_ndW, List.getElem?_cons_zero, List.getElem?_cons_succ]) | (refine awp_ret ?_; try simp only [go_sem, scF_ndW, List.getElem?_cons_zero, List.getElem?_cons_succ]) | (refine awp_condP rfl ?_; try simp only [go_sem, scF_ndW, List.getElem?_cons_zero, List.getElem?_cons_succ]) | (refine BrP.mk (fun h => ?_) (fun h => ?_) <;> try simp (dsimp := false) (disch := omega) only [wrap64]) | (refine Br.mk (fun h => ?_) (fun h => ?_) <;> try simp (dsimp := false) (disch := omega) only [wrap64]) | refine Ob.mk (by first | omega | (intro _ _; rfl) | trivial | (intros; trivial) | assumption | (intro i hi; have h0 : i = 0 := (by omega); subst h0; first | rfl | trivial) | (intro i hi; have h0 : i = 0 ∨ i = 1 := (by omega); rcases h0 with rfl | rfl <;> rfl) | (intro i hi; have h0 : i = 0 ∨ i = 1 ∨ i = 2 := (by omega); rcases h0 with rfl | rfl | rfl <;> rfl)) ?_ | apply_assumption -exfalso -symm)
  all_goals (first | (show endQ _ _ _ _ _ _ _; (repeat (rename (∀ (A : Fr) (H : Hp), AWP _ _ _ _ A H → _) => hK; clear hK)); (repeat (rename (Fr → Hp → Prop) => K; clear K))) | (show Exists _; (repeat (rename (∀ (A : Fr) (H : Hp), AWP _ _ _ _ A H → _) => hK; clear hK)); (repeat (rename (Fr → Hp → Prop) => K; clear K))) | skip)
  refine awp_loop (ι := Int × List Nd × List Int × Dc) (fun z => [(7, .v (.int .i64 (z.1))), (6, .ref 6 0), (5, .own 500000 0 6 z.2.1.length), (0, .ref 1000000 0), (1, .v (.int .i64 (2)))]) (fun z => tH z.2.2.2 z.2.1 z.2.2.1) (fun z => DrS fmS ⟨#[65, 66]⟩ 83 21 [] z.2.2.1 z.2.1 ∧ 0 ≤ z.1 ∧ (z.2.2.1.length : Int) + z.1 = v1) (fun z => z.1.toNat) (v1, [], [], d1) ⟨DrS.nil [], hv1.1, by simp⟩ (enterT rfl rfl rfl rfl rfl rfl rfl rfl (all6 rfl rfl rfl rfl rfl rfl) rfl) ?_
  rintro ⟨n, l1, cs, d2⟩ ⟨hS, hn, hcn⟩
  dsimp only at hS hn hcn ⊢
  unfold tH hL DH
  have hle := hS.le
  rw [List.length_nil] at hle
  have hcl : cs.length ≤ 2 := by omega
  repeat' (first | (refine Ob.mk (all6 rfl rfl rfl rfl rfl rfl) ?_) | ((first | refine atF (f := 51) ?_ | refine atQ (f := 51) ?_); (refine callL (d := d2) (l := l1) rfl rfl (hN.h d2 l1 (by omega)) rfl (fun d3 l2 hq => ?_); have hq1 := hq.le; have hq2 := hq.lt) <;> simp (maxSteps := 1000000) (dsimp := false) (implicitDefEqProofs := false) (disch := omega) only [wrap64, go_sem, scF_ndW, List.getElem?_cons_zero, List.getElem?_cons_succ]) | refine awp_seqK fun K hK => ?_ | (refine awp_regionK 8435 rfl ?_; simp only [List.map_cons, List.map_nil]; simp (maxSteps := 1000000) (dsimp := false) (implicitDefEqProofs := false) (disch := omega) only [wrap64, go_sem, scF_ndW, List.getElem?_cons_zero, List.getElem?_cons_succ]) | (refine awp_regionQK 8435 (by kernel_rfl) (by kernel_rfl) (by kernel_rfl) ?_; simp only [List.map_cons, List.map_nil]; simp (maxSteps := 1000000) (dsimp := false) (implicitDefEqProofs := false) (disch := omega) only [wrap64, go_sem, scF_ndW, List.getElem?_cons_zero, List.getElem?_cons_succ]) | refine awp_block ?_ | (refine awp_skip ?_; simp only [go_sem, scF_ndW, List.getElem?_cons_zero, List.getElem?_cons_succ]) | (refine awp_exit ?_; simp only [go_sem, scF_ndW, List.getElem?_cons_zero, List.getElem?_cons_succ]) | (refine awp_ret ?_; try simp only [go_sem, scF_ndW, List.getElem?_cons_zero, List.getElem?_cons_succ]) | (refine awp_condP rfl ?_; try simp only [go_sem, scF_ndW, List.getElem?_cons_zero, List.getElem?_cons_succ]) | (refine BrP.mk (fun h => ?_) (fun h => ?_) <;> try simp (dsimp := false) (disch := omega) only [wrap64]) | (refine Br.mk (fun h => ?_) (fun h => ?_) <;> try simp (dsimp := false) (disch := omega) only [wrap64]) | refine Ob.mk (by first | omega | (intro _ _; rfl) | trivial | (intros; trivial) | assumption | (intro i hi; have h0 : i = 0 := (by omega); subst h0; first | rfl | trivial) | (intro i hi; have h0 : i = 0 ∨ i = 1 := (by omega); rcases h0 with rfl | rfl <;> rfl) | (intro i hi; have h0 : i = 0 ∨ i = 1 ∨ i = 2 := (by omega); rcases h0 with rfl | rfl | rfl <;> rfl)) ?_ | apply_assumption -exfalso -symm)
  all_goals (first | (show endQ _ _ _ _ _ _ _; (repeat (rename (∀ (A : Fr) (H : Hp), AWP _ _ _ _ A H → _) => hK; clear hK)); (repeat (rename (Fr → Hp → Prop) => K; clear K))) | (show Exists _; (repeat (rename (∀ (A : Fr) (H : Hp), AWP _ _ _ _ A H → _) => hK; clear hK)); (repeat (rename (Fr → Hp → Prop) => K; clear K))) | skip)
  all_goals first
    | (refine ⟨(n - 1, l2, cs ++ [(l2.length : Int) - 1], d3), ⟨hS.snoc hq, by dsimp only; omega, by dsimp only; rw [List.length_append, List.length_singleton]; omega⟩, by dsimp only; omega, ?_⟩
       dsimp only
       refine backT rfl rfl rfl rfl rfl rfl rfl rfl ?_ rfl (by simp) (fun _ _ => rfl)
       exact all6 rfl rfl rfl rfl rfl rfl)
    | exact end_DF (D := fun h => h = 500000 ∨ h = 31) rfl rfl rfl (fitsT (cs := cs) rfl (all6 (.refl _) (.refl _) (.refl _) (.refl _) (.refl _) (fits_I rfl (.inr rfl) rfl rfl))) (by decide) ⟨_, tree_q hS hcl, rfl⟩
end Go.Proofs.YticbabpajligbaaDoor
end
/- Texts of drawn syntax trees read back (facts, no walk). -/
section
namespace Go.Proofs.YticbabpajligbaaDoor
open Go.Av
set_option linter.unusedSimpArgs false
set_option linter.unusedVariables false
attribute [local irreducible] AWP CallG Ob Br BrP Go.Av.Sub endQ AOps OpV AC thenA blkA opsVC opVC withA withArgs opsQ opQ CallQ withA2 withArgs2
open Go.Nt (Nd nd0 kd ndOk sz isNt jn kdT allT rtN NmD nmOk pSeq bt li)
abbrev nmAB : ByteArray := ⟨#[65, 66]⟩
theorem ab_nm : nmP nmAB := by
  refine ⟨by decide, fun i hi => ?_⟩
  have hi : i < 2 := hi
  match i, hi with
  | 0, _ => decide
  | 1, _ => decide
theorem ab_d : NmD nmAB := ⟨nm_ok ab_nm, fun i hi k hk => by
  have hi : i < 2 := hi
  match i, k, hi, hk with
  | 1, 0, _, _ => decide⟩
theorem ab8 : 1 ≤ nmAB.size ∧ nmAB.size ≤ 8 := ⟨by decide, by decide⟩
theorem fnP_all {ys : List Nd} (hv : isNt 2 ys) (hs : (allT fmS nmAB ys).size ≤ 400) : fnP nmAB ys = allT fmS nmAB ys := by
  rw [fnP_yes ab_nm hv, if_neg (show ¬ 400 < (fnT nmAB ys).size from by show ¬ 400 < (allT fmS nmAB ys).size; omega)]
  rfl
theorem ext_zero (t : ByteArray) : t.extract 0 0 = ⟨#[]⟩ := ba_empty (by rw [ByteArray.size_extract]; omega)
theorem p_none (n : Nat) (l : List Nd) (ks : List Int) : pSeq nmAB ⟨#[]⟩ 2 0 [] [] ≠ .ok n l ks := by
  have e : pSeq nmAB ⟨#[]⟩ 2 0 [] [] = .bad 0 := rfl
  rw [e]; intro h; cases h
/-- A tree whose last node has no children is that node alone. -/
theorem root_one {xs : List Nd} (hv : isNt nmAB.size xs) (hk : kd xs (xs.length - 1) = []) : xs = [rtN []] ∧ allT fmS nmAB xs = ⟨#[]⟩ := by
  have h1 := hv.2.2.2
  rw [Go.Nt.sz_eq, hk] at h1
  have h2 : xs.length = 1 := by
    have : (some 1 : Option Nat) = some xs.length := h1
    simpa using this.symm
  refine ⟨?_, ?_⟩
  · have := Go.Nt.root_eq hv
    rw [hk, h2] at this
    exact this
  · unfold Go.Nt.allT
    rw [show kdT fmS nmAB xs (xs.length - 1) = [] from by show (kd xs (xs.length - 1)).map _ = []; rw [hk]; rfl]
    rfl
theorem back_whole {xs : List Nd} (h : treeQ xs) : fnP nmAB xs = allT fmS nmAB xs ∧ parP nmAB (fnP nmAB xs) = (xs, -1) ∧ ((fnP nmAB xs).size = 0 → xs.length = 1) := by
  obtain ⟨hv, hs, _⟩ := h
  have hv2 : isNt nmAB.size xs := hv
  have he := fnP_all hv (show (allT fmS nmAB xs).size ≤ 400 by have : (allT fmS nmAB xs).size ≤ 168 := hs; omega)
  refine ⟨he, ?_⟩
  rw [he]
  by_cases hk : kd xs (xs.length - 1) = []
  · obtain ⟨e1, e2⟩ := root_one hv2 hk
    rw [e2]
    refine ⟨?_, fun _ => by rw [e1]; rfl⟩
    rw [e1]
    unfold parP
    rw [if_neg (by rintro (h | h); exact h ab_nm; exact absurd h (by decide))]; exact if_pos rfl
  · have hp := fun f hfu => Go.Nt.par_tree (xs := xs) fmS_ok ab_d hv2 hk f hfu
    have hz : (allT fmS nmAB xs).size ≠ 0 := fun hz => by
      have h2 := hp 2 (by omega)
      rw [ba_empty hz] at h2
      exact p_none _ _ _ h2
    refine ⟨?_, fun h => absurd h hz⟩
    have hl : (allT fmS nmAB xs).size ≤ 168 := hs
    unfold parP
    rw [if_neg (by rintro (h | h); exact h ab_nm; omega), if_neg hz, hp _ (Nat.le_refl _)]
    dsimp only
    rw [if_neg (by omega)]
    have hx := hv.2.1
    rw [if_neg (by rw [List.length_take]; omega)]
    rw [← Go.Nt.root_eq hv2]
theorem back_cut {xs : List Nd} (h : treeQ xs) {k : Nat} (hk : k < (fnP nmAB xs).size) : parP nmAB ((fnP nmAB xs).extract 0 k) = ([], (k : Int)) ∨ ∃ ys, parP nmAB ((fnP nmAB xs).extract 0 k) = (ys, -1) ∧ isNt 2 ys ∧ fnP nmAB ys = (fnP nmAB xs).extract 0 k := by
  obtain ⟨he, _, _⟩ := back_whole h
  obtain ⟨hv, hs, h3⟩ := h
  have hv2 : isNt nmAB.size xs := hv
  rw [he] at hk ⊢
  have hz : ((allT fmS nmAB xs).extract 0 k).size = k := by rw [ByteArray.size_extract]; omega
  have hl : (allT fmS nmAB xs).size ≤ 168 := hs
  by_cases hk0 : k = 0
  · subst hk0
    right
    have e0 := ext_zero (allT fmS nmAB xs)
    refine ⟨[rtN []], ?_, by decide, ?_⟩
    · rw [e0]
      unfold parP
      rw [if_neg (by rintro (h | h); exact h ab_nm; exact absurd h (by decide))]; exact if_pos rfl
    · rw [e0]; rfl
  · have hr : kd xs (xs.length - 1) ≠ [] := fun e => by
      rw [(root_one hv2 e).2] at hk
      exact absurd hk (Nat.not_lt_zero _)
    have hcut := Go.Nt.cut_law (xs := xs) fmS_ok ab_d ab8 hv2 hr (k := k) (by omega) hk (by omega)
    unfold parP
    rw [if_neg (by rintro (h | h); exact h ab_nm; omega), if_neg (by omega), hz]
    rcases hcut with h | ⟨l, ks, h, hl2, hv3, ha⟩
    · left; rw [h]
    · right
      rw [h]
      dsimp only
      rw [if_neg (by omega), if_neg (by omega)]
      exact ⟨_, rfl, hv3, by rw [fnP_all hv3 (by rw [ha]; omega), ha]⟩
end Go.Proofs.YticbabpajligbaaDoor
end
/- How bytes read. -/
section
namespace Go.Av
open Go.ChangeShapes Go.WideShapes Go.ChangeAt Go.RowKit
section
variable {P : Program} {H : Type} {enc : TypeId × Value → H} {w : World} {base : Nat} {spare : Nat → Bool} {held : Bool} {L : Loc}
theorem in8_wf {n : Int} (h : (Lit.int .u8 n).wf = true) : 0 ≤ n ∧ n ≤ 255 := by
  simp [Lit.wf, IntKind.min, IntKind.max] at h
  revert h
  simp only [show IntKind.u8.signed = false from rfl, show IntKind.u8.bits = 8 from rfl]
  intro h
  simp at h
  omega
theorem rd_bytes {t e : TypeId} {fuel : Nat} {cs : List Value} {x : DataW H × List MemPlace} (ht : P.underlying t = some (.slice e)) (he : P.underlying e = some (.int .u8)) (hc : P.cellsOf e = 1) (h : DataW.trod enc P w base spare held fuel t cs = some x) :
    ∃ (v : Value) (xs : List Int), cs = [v] ∧ (∀ L, Rd w All L (bts xs) v) ∧ xs.length ≤ 9223372036854775807 ∧ ∀ j, 0 ≤ xs.getD j 0 ∧ xs.getD j 0 ≤ 255 := by
  have hm : maxLen = 9223372036854775807 := by decide
  rcases open_ints ht he hc h with ⟨rfl, _⟩ | ⟨a, len, cap, zs, rfl, _, hl, hmx, hz, _, hcell, hwf⟩
  · exact ⟨_, [], rfl, fun L => ⟨none, 0, rfl, Nat.le_refl _, by simp, fun _ => ⟨rfl, rfl⟩, by simp⟩, by simp, by simp⟩
  · have hlen : len ≤ zs.length := by rw [hz]; split <;> omega
    refine ⟨_, zs.take len, rfl, fun L => rd_list u8v 0 (V := fun i => .int .u8 (zs.getD i 0)) (by simp; omega) hl (fun i hi => hcell i (by omega)) (fun i hi L' => ?_), by simp; omega, fun j => ?_⟩
    · have e : (zs.take len).getD i 0 = zs.getD i 0 := by simp [hi]
      rw [e]; rfl
    · by_cases hj : j < (zs.take len).length
      · rw [List.getD_eq_getElem?_getD, List.getElem?_eq_getElem hj, Option.getD_some]
        exact in8_wf (hwf _ (List.mem_of_mem_take (List.getElem_mem hj)))
      · rw [List.getD_eq_getElem?_getD, List.getElem?_eq_none (by omega), Option.getD_none]; omega
end
end Go.Av
end
