import Derived.Test.YticbabpajligbaaDoorI24
import Derived.Test.YticbabpajligbaaDoorI18
import Derived.Test.YticbabpajligbaaDoorI3
import Derived.Test.YticbabpajligbaaDoorI4
import Derived.Test.YticbabpajligbaaDoorI17
import Derived.Test.YticbabpajligbaaDoorI2
/- Words cut into tokens: runs of at most 99 letters; plain. -/
section
namespace Go.Wd
set_option linter.unusedVariables false
/-- From place a on there are n letters alike, at most 99, and no more unless n is 99. -/
structure RL (w : List Int) (a n : Nat) : Prop where
  le : n ≤ 99
  al : ∀ i, i < n → a + i < w.length ∧ w.getD (a + i) 0 = w.getD a 0
  st : n < 99 → a + n < w.length → w.getD (a + n) 0 ≠ w.getD a 0
/-- The tokens of a word from place a on. -/
def Tk (w : List Int) : Nat → List (Int × Nat) → Prop
  | a, [] => a = w.length
  | a, (x, n) :: ts => a < w.length ∧ w.getD a 0 = x ∧ 1 ≤ n ∧ RL w a n ∧ Tk w (a + n) ts
/-- A run cut into parts of at most 99. -/
def chs (n : Nat) : List Nat := (List.range (Go.Av.nch 99 n)).map fun k => min 99 (n - 99 * k)
theorem chs_pos {n : Nat} (h : 0 < n) : chs n = min 99 n :: chs (n - 99) := by
  unfold chs
  have e : Go.Av.nch 99 n = Go.Av.nch 99 (n - 99) + 1 := by unfold Go.Av.nch; omega
  rw [e, List.range_succ_eq_map, List.map_cons, List.map_map]
  congr 1
  refine List.map_congr_left fun k _ => ?_
  simp only [Function.comp_apply]
  omega
theorem tk_run {w : List Int} {x : Int} {ts : List (Int × Nat)} : ∀ (n a : Nat), (∀ i, i < n → a + i < w.length ∧ w.getD (a + i) 0 = x) → (a + n < w.length → w.getD (a + n) 0 ≠ x) → Tk w (a + n) ts → Tk w a ((chs n).map (fun m => (x, m)) ++ ts) := by
  intro n
  induction n using Nat.strongRecOn with
  | _ n ih =>
    intro a h1 h2 h3
    by_cases h0 : n = 0
    · subst h0; exact h3
    · rw [chs_pos (by omega)]
      have ha := h1 0 (by omega)
      rw [Nat.add_zero] at ha
      refine ⟨ha.1, ha.2, by omega, ⟨by omega, fun i hi => ⟨(h1 i (by omega)).1, (h1 i (by omega)).2.trans ha.2.symm⟩, fun hl hlt => ?_⟩, ?_⟩
      · have e : min 99 n = n := by omega
        rw [e] at hlt ⊢
        rw [ha.2]; exact h2 hlt
      · by_cases h99 : n ≤ 99
        · have e : min 99 n = n := by omega
          have e2 : n - 99 = 0 := by omega
          rw [e, e2]; exact h3
        · have e : min 99 n = 99 := by omega
          rw [e]
          refine ih (n - 99) (by omega) (a + 99) (fun i hi => ?_) (fun h => ?_) ?_
          · have := h1 (99 + i) (by omega)
            rwa [show a + (99 + i) = a + 99 + i by omega] at this
          · rw [show a + 99 + (n - 99) = a + n by omega] at h ⊢; exact h2 h
          · rw [show a + 99 + (n - 99) = a + n by omega]; exact h3
/-- The tokens of the runs from run j on. -/
def tkR (w : List Int) (j : Nat) : List (Int × Nat) := ((runs id w).drop j).flatMap fun r => (chs r.length).map fun m => (r.getD 0 0, m)
theorem tk_runs (w : List Int) : ∀ (d j : Nat), j + d = (runs id w).length → Tk w (offs (runs id w) j) (tkR w j)
  | 0, j, h => by
    have e : tkR w j = [] := by unfold tkR; rw [List.drop_eq_nil_of_le (by omega)]; rfl
    rw [e]
    show _ = _
    rw [show j = (runs id w).length by omega, offs_all, runs_flat]
  | d + 1, j, h => by
    have hj : j < (runs id w).length := by omega
    obtain ⟨h1, h2, h3⟩ := run_end hj
    have e : tkR w j = (chs ((runs id w).getD j []).length).map (fun m => (((runs id w).getD j []).getD 0 0, m)) ++ tkR w (j + 1) := by
      unfold tkR
      rw [List.drop_eq_getElem_cons hj, List.flatMap_cons]
      simp [List.getD_eq_getElem?_getD, hj]
    have h0 := h1 0 h3
    rw [Nat.add_zero] at h0
    rw [e]
    rw [offs_succ hj] at h2
    refine tk_run _ _ (fun i hi => ⟨(h1 i hi).1, ?_⟩) (fun h => ?_) ?_
    · have := (h1 i hi).2.2
      rw [id, id] at this
      rw [this, h0.2.1]
    · have := h2 h
      rw [id, id] at this
      rw [← h0.2.1]; exact this
    · rw [← offs_succ hj]; exact tk_runs w d (j + 1) (by omega)
/-- The tokens of a word. -/
def tks (w : List Int) : List (Int × Nat) := tkR w 0
theorem tks_tk (w : List Int) : Tk w 0 (tks w) := tk_runs w (runs id w).length 0 (Nat.zero_add _)
end Go.Wd
end
/- The reference's sources of choices: how they lie in memory, and what they answer. -/
section
namespace Go.Proofs.YticbabpajligbaaDoor
open Go.Av
set_option linter.unusedSimpArgs false
set_option linter.unusedVariables false
attribute [local irreducible] AWP CallG Ob Br BrP Go.Av.Sub endQ AOps OpV AC thenA blkA opsVC opVC withA withArgs opsQ opQ CallQ withA2 withArgs2
end Go.Proofs.YticbabpajligbaaDoor
end
section
namespace Go.Proofs.YticbabpajligbaaDoor
open Go.Av
set_option linter.unusedSimpArgs false
set_option linter.unusedVariables false
attribute [local irreducible] AWP CallG Ob Br BrP Go.Av.Sub endQ AOps OpV AC thenA blkA opsVC opVC withA withArgs opsQ opQ CallQ withA2 withArgs2

end Go.Proofs.YticbabpajligbaaDoor
end
/- impl.inverseWord's contract over abstract values. -/
section
namespace Go.Proofs.YticbabpajligbaaDoor
open Go.Av
set_option linter.unusedSimpArgs false
set_option linter.unusedVariables false

end Go.Proofs.YticbabpajligbaaDoor
end
section
namespace Go.Proofs.YticbabpajligbaaDoor
open Go.Av
set_option linter.unusedSimpArgs false
set_option linter.unusedVariables false
attribute [local irreducible] AWP CallG Ob Br BrP Go.Av.Sub endQ AOps OpV AC thenA blkA opsVC opVC withA withArgs opsQ opQ CallQ withA2 withArgs2

end Go.Proofs.YticbabpajligbaaDoor
end
section
namespace Go.Proofs.YticbabpajligbaaDoor
open Go.Av
set_option linter.unusedSimpArgs false
set_option linter.unusedVariables false
attribute [local irreducible] AWP CallG Ob Br BrP Go.Av.Sub endQ AOps OpV AC thenA blkA opsVC opVC withA withArgs opsQ opQ CallQ withA2 withArgs2

end Go.Proofs.YticbabpajligbaaDoor
end
/- Free reduction, and the lengths of words: both texts. -/
section
namespace Go.Proofs.YticbabpajligbaaDoor
open Go.Av
set_option linter.unusedSimpArgs false
set_option linter.unusedVariables false
attribute [local irreducible] AWP CallG Ob Br BrP Go.Av.Sub endQ AOps OpV AC thenA blkA opsVC opVC withA withArgs opsQ opQ CallQ withA2 withArgs2
open Go.Wd (fr frS)
end Go.Proofs.YticbabpajligbaaDoor
end
/- Runs of letters: the program's. -/
section
namespace Go.Proofs.YticbabpajligbaaDoor
open Go.Av
set_option linter.unusedSimpArgs false
set_option linter.unusedVariables false
attribute [local irreducible] AWP CallG Ob Br BrP Go.Av.Sub endQ AOps OpV AC thenA blkA opsVC opVC withA withArgs opsQ opQ CallQ withA2 withArgs2
open Go.Wd (runsK)
/-- The rows of runs: all but the last are only read from now on. -/
def runF (xs : List (List Int)) (i : Nat) : AV := if i + 1 < xs.length then ints (xs.getD i []) else .own 31 0 1 (xs.getD i []).length
theorem runF_last {xs : List (List Int)} {i : Nat} (h : i + 1 = xs.length) : runF xs i = .own 31 0 1 (xs.getD i []).length := if_neg (by omega)
theorem runF_low {xs : List (List Int)} {i : Nat} (h : i + 1 < xs.length) : runF xs i = ints (xs.getD i []) := if_pos h
theorem runF_sc {xs : List (List Int)} {e : Nat} (he : e ≠ 31) : scF (fun x => x == e) (runF xs) = runF xs := by
  funext i
  unfold scF runF
  split
  · rfl
  · simp [AV.scrub, Ne.symm he]
theorem len_flat : ∀ (xs : List (List Int)) (j : Nat), (xs.getD j []).length ≤ xs.flatten.length
  | [], j => by simp
  | x :: xs, 0 => by simp
  | x :: xs, j + 1 => by
    have := len_flat xs j
    rw [List.getD_cons_succ, List.flatten_cons, List.length_append]; omega
abbrev fnV (g : FuncId) : AV := .v (.func (.func g) #[] #[])
theorem getD_set' {α : Type} {xs : List α} {i j : Nat} {d x : α} (hi : i < xs.length) : (xs.set i x).getD j d = if j = i then x else xs.getD j d := by
  by_cases h : j = i
  · subst h; simp [List.getD_eq_getElem?_getD, hi]
  · rw [if_neg h]; simp [List.getD_eq_getElem?_getD, List.getElem?_set, Ne.symm h]
theorem getD_snoc' {α : Type} {xs : List α} {j : Nat} {d x : α} : (xs ++ [x]).getD j d = if j = xs.length then x else xs.getD j d := by
  by_cases h : j = xs.length
  · subst h; simp [List.getD_eq_getElem?_getD]
  · rw [if_neg h]
    by_cases h2 : j < xs.length
    · simp [List.getD_eq_getElem?_getD, List.getElem?_append_left h2]
    · simp [List.getD_eq_getElem?_getD, List.getElem?_eq_none (show (xs ++ [x]).length ≤ j by simp; omega), List.getElem?_eq_none (show xs.length ≤ j by omega)]
def allP (p : AV → Prop) : Fr → Prop
  | [] => True
  | (_, a) :: r => p a ∧ allP p r
theorem allP_get {p : AV → Prop} : ∀ {A : Fr}, allP p A → ∀ {i : Nat} {c : AV}, A.get i = some c → p c
  | [], _, i, c, h => by simp [Fr.get] at h
  | (j, a) :: r, hl, i, c, h => by
    simp only [Fr.get] at h
    split at h
    · simp only [Option.some.injEq] at h; subst h; exact hl.1
    · exact allP_get hl.2 h
/-- A new run is laid: the run before is only read from now on. -/
theorem runF_new {N : Cx} (hpn : N.pn = fun _ => false) {A A' : Fr} {H0 : Hp} {xs ys : List (List Int)} {l : Int} {z : Nat → AV} (e : ys = xs ++ [[l]]) (hA : Fr.sub A A') (hl : allP (fun c => c.plain ∨ ∃ n, c = .own 30 0 1 n) A')
    (h30 : H0 30 = some (.cells (xs.length + 1) (apF xs.length (runF xs) (setF z 0 (.own 43 0 1 1))))) (h31 : H0 31 = some (.cells (xs.getD (xs.length - 1) []).length (cM iv 0 (xs.getD (xs.length - 1) [])))) (h43 : H0 43 = some (.cells 1 (cM iv 0 [l]))) :
    Sub N A H0 A' ((Hp.emp.upd 30 (.cells ys.length (runF ys))).upd 31 (.cells (ys.getD (ys.length - 1) []).length (cM iv 0 (ys.getD (ys.length - 1) [])))) := by
  have eg : ∀ i, ys.getD i [] = if i = xs.length then [l] else xs.getD i [] := fun i => by rw [e]; exact getD_snoc'
  have el : ys.length = xs.length + 1 := by rw [e]; simp
  have s1 : Sub N A H0 A' ((Hp.emp.upd 30 (.cells (xs.length + 1) fun i => if i < xs.length then ints (xs.getD i []) else .own 43 0 1 1)).upd 43 (.cells 1 (cM iv 0 [l]))) := by
    refine Sub.fits (fun x => x = 31) (fun i c hc => ⟨c, Fr.sub_get A' A hA i c hc, .refl c⟩) (leF_upd h43 (.refl _ _ _) (leF_upd h30 ⟨rfl, fun i hi => ?_⟩ leF_emp (by decide)) (by decide))
    unfold apF
    dsimp only
    by_cases hc : i < xs.length
    · rw [if_pos hc, if_pos hc]
      by_cases h2 : i + 1 < xs.length
      · rw [runF_low h2]; exact .refl _
      · rw [runF_last (by omega)]
        have : i = xs.length - 1 := by omega
        subst this
        exact fits_I h31 rfl rfl rfl
    · rw [if_neg hc, if_neg hc, show i - xs.length = 0 by omega]
      exact .ofEq (by simp [setF])
  rw [el, Nat.add_sub_cancel, eg, if_pos rfl]
  refine s1.trans (Sub.layM (fun h => if h = 31 then some 43 else some h) hpn (fun i c hc => ⟨c, hc, ?_⟩) (layF_upd (g := 43) (by simp) rfl (fun i hi => ?_) (layF_upd (g := 30) (by simp) rfl (fun i hi => ?_) layF_emp)) (fun x y k hx hy h1 h2 => ?_))
  · rcases allP_get hl hc with h | ⟨n, rfl⟩
    · exact .plain h
    · exact .own (by simp)
  · exact .plain trivial
  · by_cases hc : i < xs.length
    · rw [if_pos hc, runF_low (xs := ys) (by omega), eg, if_neg (by omega)]
      exact .plain trivial
    · have : i = xs.length := by omega
      subst this
      rw [if_neg (by omega), runF_last (xs := ys) (by omega), eg, if_pos rfl]
      exact .own (by simp)
  · have live : ∀ x, ((Hp.emp.upd 30 (.cells (xs.length + 1) (runF ys))).upd 31 (.cells [l].length (cM iv 0 [l]))) x ≠ none → x = 31 ∨ x = 30 := fun x hx => by
      unfold Hp.upd at hx
      by_cases e1 : x = 31
      · exact .inl e1
      · rw [if_neg e1] at hx
        by_cases e2 : x = 30
        · exact .inr e2
        · rw [if_neg e2] at hx; exact absurd rfl hx
    rcases live x hx with rfl | rfl <;> rcases live y hy with rfl | rfl <;> first | rfl | (simp at h1 h2; omega)
set_option maxHeartbeats 1000000 in
theorem runs_okA (w : List Int) (g : FuncId) (al : Int → Int → Bool) (hl : w.length ≤ 1048576) (hg : ∀ i j, i < w.length → j < w.length → AC Tryd.prog g [.v (.int .i64 (w.getD i 0)), .v (.int .i64 (w.getD j 0))] Hp.emp (fun _ => false) (retV (.v (.bool (al (w.getD i 0) (w.getD j 0)))))) : AC Tryd.prog 39 [ints w, fnV g] Hp.emp (fun _ => false) (retV (intss (runsK al w w.length))) := by
  refine ac_of_awp (N := ⟨_, fun _ => false, fun _ _ => rfl, true⟩) Tryd.func39 rfl (by kernel_rfl) Tryd.ntmps39 (by simp) ?_
  simp only [argsFr, List.zipIdx_cons, List.zipIdx_nil, go_sem]
  repeat' (first | refine awp_seqK fun K hK => ?_ | (refine awp_regionK 67112947 rfl ?_; simp only [List.map_cons, List.map_nil]; simp (maxSteps := 1000000) (dsimp := false) (implicitDefEqProofs := false) (disch := omega) only [wrap64, go_sem]) | (refine awp_regionQK 67112947 (by kernel_rfl) (by kernel_rfl) (by kernel_rfl) ?_; simp only [List.map_cons, List.map_nil]; simp (maxSteps := 1000000) (dsimp := false) (implicitDefEqProofs := false) (disch := omega) only [wrap64, go_sem]) | refine awp_block ?_ | (refine awp_skip ?_; simp only [go_sem]) | (refine awp_exit ?_; simp only [go_sem]) | (refine awp_ret ?_; try simp only [go_sem]) | (refine awp_condP rfl ?_; try simp only [go_sem]) | (refine BrP.mk (fun h => ?_) (fun h => ?_) <;> try simp (dsimp := false) (disch := omega) only [wrap64]) | (refine Br.mk (fun h => ?_) (fun h => ?_) <;> try simp (dsimp := false) (disch := omega) only [wrap64]) | refine Ob.mk (by first | omega | (intro _ _; rfl) | trivial | (intros; trivial) | assumption | (intro i hi; have h0 : i = 0 := (by omega); subst h0; first | rfl | trivial) | (intro i hi; have h0 : i = 0 ∨ i = 1 := (by omega); rcases h0 with rfl | rfl <;> rfl) | (intro i hi; have h0 : i = 0 ∨ i = 1 ∨ i = 2 := (by omega); rcases h0 with rfl | rfl | rfl <;> rfl)) ?_ | apply_assumption -exfalso -symm)
  all_goals (first | (show endQ _ _ _ _ _ _ _; (repeat (rename (∀ (A : Fr) (H : Hp), AWP _ _ _ _ A H → _) => hK; clear hK)); (repeat (rename (Fr → Hp → Prop) => K; clear K))) | (show Exists _; (repeat (rename (∀ (A : Fr) (H : Hp), AWP _ _ _ _ A H → _) => hK; clear hK)); (repeat (rename (Fr → Hp → Prop) => K; clear K))) | skip)
  refine awp_loop (ι := Nat) (fun k => [(10, .v (.int .i64 (k))), (9, .v (.int .i64 (w.length))), (8, .list false 1 (w).length (cM iv 0 (w))), (5, .own 30 0 1 (runsK al w k).length), (0, .list false 1 (w).length (cM iv 0 (w))), (1, fnV g)]) (fun k => (Hp.emp.upd 30 (.cells (runsK al w k).length (runF (runsK al w k)))).upd 31 (.cells ((runsK al w k).getD ((runsK al w k).length - 1) []).length (cM iv 0 ((runsK al w k).getD ((runsK al w k).length - 1) [])))) (fun k => k ≤ w.length) (fun k => w.length - k) 0 (Nat.zero_le _) (Sub.layM (fun _ => none) rfl (lay_cons ⟨_, rfl, .plain trivial⟩ (lay_cons ⟨_, rfl, .plain trivial⟩ (lay_cons ⟨_, rfl, .plain trivial⟩ (lay_cons ⟨_, rfl, .nil rfl⟩ (lay_cons ⟨_, rfl, .plain trivial⟩ (lay_cons ⟨_, rfl, .plain trivial⟩ lay_nil)))))) (layF_nil rfl (layF_nil rfl layF_emp)) (fun _ _ _ _ _ h _ => by cases h)) ?_
  intro k hk
  obtain ⟨xs, hx⟩ : ∃ xs, xs = runsK al w k := ⟨_, rfl⟩
  have hp := Go.Wd.runsK_pos al w k
  rw [← hx] at hp ⊢
  have e1 : ((xs.length : Int) - 1).toNat = xs.length - 1 := by omega
  have e2 : ((k : Int) - 1).toNat = k - 1 := by omega
  have e3 : 0 < xs.length → runF xs (xs.length - 1) = .own 31 0 1 (xs.getD (xs.length - 1) []).length := fun h => runF_last (by omega)
  have hs30 : scF (fun x => x == 30) (runF xs) = runF xs := runF_sc (by decide)
  have hs38 : scF (fun x => x == 38) (runF xs) = runF xs := runF_sc (by decide)
  have hs43 : scF (fun x => x == 43) (runF xs) = runF xs := runF_sc (by decide)
  have hs44 : scF (fun x => x == 44) (runF xs) = runF xs := runF_sc (by decide)
  have hlast : (xs.getD (xs.length - 1) []).length ≤ w.length := by
    have h1 := len_flat xs (xs.length - 1)
    have h2 := congrArg List.length (Go.Wd.runsK_flat al w k hk)
    rw [← hx, List.length_take] at h2
    omega
  have hgk := hg (k - 1) k
  repeat' (first | refine awp_seqK fun K hK => ?_ | (refine awp_regionK 67112947 rfl ?_; simp only [List.map_cons, List.map_nil]; simp (maxSteps := 1000000) (dsimp := false) (implicitDefEqProofs := false) (disch := omega) only [wrap64, go_sem, e1, e2, e3, hs30, hs38, hs43, hs44]) | (refine awp_regionQK 67112947 (by kernel_rfl) (by kernel_rfl) (by kernel_rfl) ?_; simp only [List.map_cons, List.map_nil]; simp (maxSteps := 1000000) (dsimp := false) (implicitDefEqProofs := false) (disch := omega) only [wrap64, go_sem, e1, e2, e3, hs30, hs38, hs43, hs44]) | refine awp_block ?_ | (refine awp_skip ?_; simp only [go_sem, e1, e2, e3, hs30, hs38, hs43, hs44]) | (refine awp_exit ?_; simp only [go_sem, e1, e2, e3, hs30, hs38, hs43, hs44]) | (refine awp_ret ?_; try simp only [go_sem, e1, e2, e3, hs30, hs38, hs43, hs44]) | (refine awp_condP rfl ?_; try simp only [go_sem, e1, e2, e3, hs30, hs38, hs43, hs44]) | (refine BrP.mk (fun h => ?_) (fun h => ?_) <;> try simp (dsimp := false) (disch := omega) only [wrap64]) | (refine Br.mk (fun h => ?_) (fun h => ?_) <;> try simp (dsimp := false) (disch := omega) only [wrap64]) | refine Ob.mk (by first | omega | (intro _ _; rfl) | trivial | (intros; trivial) | assumption | (intro i hi; have h0 : i = 0 := (by omega); subst h0; first | rfl | trivial) | (intro i hi; have h0 : i = 0 ∨ i = 1 := (by omega); rcases h0 with rfl | rfl <;> rfl) | (intro i hi; have h0 : i = 0 ∨ i = 1 ∨ i = 2 := (by omega); rcases h0 with rfl | rfl | rfl <;> rfl)) ?_ | ((first | (refine cV (hac := hgk (by omega) (by omega)) (hK := ?_)) | (refine cQV (hac := hgk (by omega) (by omega)) (hK := ?_))); simp (maxSteps := 1000000) (dsimp := false) (implicitDefEqProofs := false) (disch := omega) only [wrap64, go_sem, e1, e2, e3, hs30, hs38, hs43, hs44]) | apply_assumption -exfalso -symm)
  all_goals (first | (show endQ _ _ _ _ _ _ _; (repeat (rename (∀ (A : Fr) (H : Hp), AWP _ _ _ _ A H → _) => hK; clear hK)); (repeat (rename (Fr → Hp → Prop) => K; clear K))) | (show Exists _; (repeat (rename (∀ (A : Fr) (H : Hp), AWP _ _ _ _ A H → _) => hK; clear hK)); (repeat (rename (Fr → Hp → Prop) => K; clear K))) | skip)
  · have e : runsK al w (k + 1) = xs.set (xs.length - 1) (xs.getD (xs.length - 1) [] ++ [w.getD k 0]) := by rw [hx]; exact if_pos ⟨by omega, by assumption⟩
    have h0 := hp.1 (by omega)
    have el : (runsK al w (k + 1)).length = xs.length := by rw [e, List.length_set]
    have eg : ∀ i, (runsK al w (k + 1)).getD i [] = if i = xs.length - 1 then xs.getD (xs.length - 1) [] ++ [w.getD k 0] else xs.getD i [] := fun i => by rw [e]; exact getD_set' (by omega)
    refine ⟨k + 1, by omega, by omega, Sub.toLF (by simp only [go_sem] <;> first | trivial | (simp only [Option.some.injEq, AV.v.injEq, AV.own.injEq, AV.list.injEq, Value.int.injEq, Value.bool.injEq, true_and, and_true]; first | omega | (simp [el]; done)) | (simp [el]; done) | (simp [el]; omega)) (leF_upd rfl (bfE ?_ fun i hi => ?_) (leF_upd rfl (bfE el.symm fun i hi => ?_) leF_emp id) id)⟩
    · rw [el, eg, if_pos rfl, List.length_append]; rfl
    · rw [el, eg, if_pos rfl]
    · by_cases hc : i = xs.length - 1
      · subst hc
        rw [runF_last (by omega), eg, if_pos rfl, List.length_append]
        simp [setF]
      · rw [runF_low (by omega), eg, if_neg hc]
        simp only [setF, if_neg hc, scF]
        rw [runF_low (by omega)]; rfl
  all_goals first
  | (have e : runsK al w (k + 1) = xs ++ [[w.getD k 0]] := (by rw [hx]; exact if_neg (by simp_all))
     have el : (runsK al w (k + 1)).length = xs.length + 1 := (by rw [e]; simp)
     exact ⟨k + 1, by omega, by omega, runF_new rfl e (by simp only [go_sem] <;> first | trivial | (simp only [Option.some.injEq, AV.v.injEq, AV.own.injEq, AV.list.injEq, Value.int.injEq, Value.bool.injEq, true_and, and_true]; first | omega | (simp [el]; done)) | (simp [el]; done) | (simp [el]; omega)) (by simp only [allP, AV.plain, true_or, true_and, and_true]; exact .inr ⟨_, rfl⟩) rfl rfl rfl⟩)
  | skip
  · have e : k = w.length := by omega
    subst e
    rw [← hx]
    refine end_retF rfl rfl (.own (M := xs.length) (g := runF xs) rfl trivial (by omega) (fun i hi => trivial) (fun i hi => ?_))
    rw [Nat.zero_add]
    rw [Nat.mul_one] at hi
    show Fits _ _ (runF xs i) (ints (xs.getD i []))
    by_cases hc : i + 1 < xs.length
    · rw [runF_low hc]; exact .refl _
    · rw [runF_last (by omega)]
      have : i = xs.length - 1 := by omega
      subst this
      exact fits_I rfl trivial rfl rfl
end Go.Proofs.YticbabpajligbaaDoor
end
