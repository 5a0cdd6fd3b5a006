import Derived.Test.YticbabpajligbaaDoorK28
import Derived.Test.YticbabpajligbaaDoorK4
import Derived.Test.YticbabpajligbaaDoorK3
import Derived.Test.YticbabpajligbaaDoorK25
import Derived.Test.YticbabpajligbaaDoorK15
import Derived.Test.YticbabpajligbaaDoorK13
import Derived.Test.YticbabpajligbaaDoorK27
import Derived.Test.YticbabpajligbaaDoorK17
import Derived.Test.YticbabpajligbaaDoorK20
import Derived.Test.YticbabpajligbaaDoorK24
/- slices.Chunk: the call. -/
section
namespace Go.Proofs.YticbabpajligbaaDoor
open Go.Av
set_option linter.unusedSimpArgs false
set_option linter.unusedVariables false
attribute [local irreducible] AWP CallG Ob Br BrP Go.Av.Sub endQ AOps OpV AC thenA blkA opsVC opVC withA withArgs opsQ opQ CallQ withA2 withArgs2
/-- What a call of Chunk leaves: a function over two boxes. -/
def postCk (r : List Int) : AV → Hp → Prop := fun a H => a = .clo 74 2 (vecF [.ref 2 0, .ref 3 0]) ∧ H = (Hp.emp.upd 2 (.cells 1 fun _ => ints r)).upd 3 (.cells 1 fun _ => .v (.int .i64 (99)))
theorem chunk_ok (r : List Int) : AC Tryd.prog 41 [ints r, .v (.int .i64 (99))] Hp.emp (fun _ => false) (postCk r) := by
  refine ac_of_awp (N := ⟨_, fun _ => false, fun _ _ => rfl, true⟩) Tryd.func41 rfl (by kernel_rfl) Tryd.ntmps41 (by simp) ?_
  simp only [argsFr, List.zipIdx_cons, List.zipIdx_nil, go_sem]
  repeat' (first | refine awp_seqK fun K hK => ?_ | (refine awp_regionK 95 rfl ?_; simp only [List.map_cons, List.map_nil]; simp (maxSteps := 1000000) (dsimp := false) (implicitDefEqProofs := false) (disch := omega) only [wrap64, go_sem]) | (refine awp_regionQK 95 (by kernel_rfl) (by kernel_rfl) (by kernel_rfl) ?_; simp only [List.map_cons, List.map_nil]; simp (maxSteps := 1000000) (dsimp := false) (implicitDefEqProofs := false) (disch := omega) only [wrap64, go_sem]) | refine awp_block ?_ | (refine awp_skip ?_; simp only [go_sem]) | (refine awp_exit ?_; simp only [go_sem]) | (refine awp_ret ?_; try simp only [go_sem]) | (refine awp_condP rfl ?_; try simp only [go_sem]) | (refine BrP.mk (fun h => ?_) (fun h => ?_) <;> try simp (dsimp := false) (disch := omega) only [wrap64]) | (refine Br.mk (fun h => ?_) (fun h => ?_) <;> try simp (dsimp := false) (disch := omega) only [wrap64]) | refine Ob.mk (by first | omega | (intro _ _; rfl) | trivial | (intros; trivial) | assumption | (intro i hi; have h0 : i = 0 := (by omega); subst h0; first | rfl | trivial) | (intro i hi; have h0 : i = 0 ∨ i = 1 := (by omega); rcases h0 with rfl | rfl <;> rfl) | (intro i hi; have h0 : i = 0 ∨ i = 1 ∨ i = 2 := (by omega); rcases h0 with rfl | rfl | rfl <;> rfl)) ?_ | apply_assumption -exfalso -symm)
  all_goals (first | (show endQ _ _ _ _ _ _ _; (repeat (rename (∀ (A : Fr) (H : Hp), AWP _ _ _ _ A H → _) => hK; clear hK)); (repeat (rename (Fr → Hp → Prop) => K; clear K))) | (show Exists _; (repeat (rename (∀ (A : Fr) (H : Hp), AWP _ _ _ _ A H → _) => hK; clear hK)); (repeat (rename (Fr → Hp → Prop) => K; clear K))) | skip)
  · omega
  · exact end_post rfl rfl (Hp.le_refl _) ⟨rfl, rfl⟩
def ckB (h : Nat) : Bool := h == 2 || h == 3
theorem callCk {P : Program} {N : Cx} {A : Fr} {H : Hp} {f : FuncId} {gf : FuncId} {args : List AV} {F1 F2 : Nat → AV} {K : AV → Fr → Hp → Prop} (hac : AC P f args Hp.emp (fun _ => false) (fun a H => a = .clo gf 2 (vecF [.ref 2 0, .ref 3 0]) ∧ H = (Hp.emp.upd 2 (.cells 1 F1)).upd 3 (.cells 1 F2))) (h1 : ∀ p, scF p F1 = F1) (h2 : ∀ p, scF p F2 = F2) (hpn : ∀ h, N.pn h = true → ckB h = false)
    (hK : K (.clo gf 2 (vecF [.ref 2 0, .ref 3 0])) (A.scrub ckB) (((H.scrub ckB).upd 2 (.cells 1 F1)).upd 3 (.cells 1 F2))) : CallG P N f args A H K := by
  refine callG_of hac ckB false (Hp.le_emp _) (FitsL.refl _) (fun _ => rfl) (fun h hn _ => absurd rfl hn) hpn ?_
  rintro r H' ⟨rfl, rfl⟩
  have live : ∀ h, ((Hp.emp.upd 2 (.cells 1 F1)).upd 3 (.cells 1 F2)) h ≠ none → ckB h = true := fun h hn => by
    unfold Hp.upd at hn
    by_cases e : h = 3
    · subst e; rfl
    · rw [if_neg e] at hn
      by_cases e2 : h = 2
      · subst e2; rfl
      · rw [if_neg e2] at hn; exact absurd rfl hn
  refine ⟨fun h hn _ => live h hn, by simp, ?_⟩
  have l2 : liveB ((Hp.emp.upd 2 (.cells 1 F1)).upd 3 (.cells 1 F2)) 2 = true := by simp [liveB, Hp.upd]
  have l3 : liveB ((Hp.emp.upd 2 (.cells 1 F1)).upd 3 (.cells 1 F2)) 3 = true := by simp [liveB, Hp.upd]
  have e1 : (AV.clo gf 2 (vecF [.ref 2 0, .ref 3 0])).scrub (fun h => !liveB ((Hp.emp.upd 2 (.cells 1 F1)).upd 3 (.cells 1 F2)) h) = .clo gf 2 (vecF [.ref 2 0, .ref 3 0]) := by
    simp only [scrub_clo, scF_vecF, List.map_cons, List.map_nil, scrub_ref, l2, l3, Bool.not_true, Bool.false_eq_true, if_false]
  have e2 : Hp.over (((Hp.emp.upd 2 (.cells 1 F1)).upd 3 (.cells 1 F2)).scrub fun h => !liveB ((Hp.emp.upd 2 (.cells 1 F1)).upd 3 (.cells 1 F2)) h) (H.scrub ckB) Hp.emp = ((H.scrub ckB).upd 2 (.cells 1 F1)).upd 3 (.cells 1 F2) := by
    rw [Hp.scrub_upd, Hp.scrub_upd, Blk.scrub_cells, Blk.scrub_cells, h1, h2]
    funext h
    unfold Hp.over Hp.upd
    by_cases e : h = 3
    · simp only [if_pos e]
    · simp only [if_neg e]
      by_cases e2 : h = 2
      · simp only [if_pos e2]
      · simp only [if_neg e2]
        simp [Hp.scrub, Hp.emp]
  rw [e1, e2]; exact hK
end Go.Proofs.YticbabpajligbaaDoor
end
/- Words cut into tokens: runs of at most 99 letters; plain. -/
section
namespace Go.Wd
set_option linter.unusedVariables false
/-- From place a on there are n letters alike, at most 99, and no more unless n is 99. -/
structure RL (w : List Int) (a n : Nat) : Prop where
  le : n ≤ 99
  al : ∀ i, i < n → a + i < w.length ∧ w.getD (a + i) 0 = w.getD a 0
  st : n < 99 → a + n < w.length → w.getD (a + n) 0 ≠ w.getD a 0
/-- The tokens of a word from place a on. -/
def Tk (w : List Int) : Nat → List (Int × Nat) → Prop
  | a, [] => a = w.length
  | a, (x, n) :: ts => a < w.length ∧ w.getD a 0 = x ∧ 1 ≤ n ∧ RL w a n ∧ Tk w (a + n) ts
/-- A run cut into parts of at most 99. -/
def chs (n : Nat) : List Nat := (List.range (Go.Av.nch 99 n)).map fun k => min 99 (n - 99 * k)
theorem chs_pos {n : Nat} (h : 0 < n) : chs n = min 99 n :: chs (n - 99) := by
  unfold chs
  have e : Go.Av.nch 99 n = Go.Av.nch 99 (n - 99) + 1 := by unfold Go.Av.nch; omega
  rw [e, List.range_succ_eq_map, List.map_cons, List.map_map]
  congr 1
  refine List.map_congr_left fun k _ => ?_
  simp only [Function.comp_apply]
  omega
theorem tk_run {w : List Int} {x : Int} {ts : List (Int × Nat)} : ∀ (n a : Nat), (∀ i, i < n → a + i < w.length ∧ w.getD (a + i) 0 = x) → (a + n < w.length → w.getD (a + n) 0 ≠ x) → Tk w (a + n) ts → Tk w a ((chs n).map (fun m => (x, m)) ++ ts) := by
  intro n
  induction n using Nat.strongRecOn with
  | _ n ih =>
    intro a h1 h2 h3
    by_cases h0 : n = 0
    · subst h0; exact h3
    · rw [chs_pos (by omega)]
      have ha := h1 0 (by omega)
      rw [Nat.add_zero] at ha
      refine ⟨ha.1, ha.2, by omega, ⟨by omega, fun i hi => ⟨(h1 i (by omega)).1, (h1 i (by omega)).2.trans ha.2.symm⟩, fun hl hlt => ?_⟩, ?_⟩
      · have e : min 99 n = n := by omega
        rw [e] at hlt ⊢
        rw [ha.2]; exact h2 hlt
      · by_cases h99 : n ≤ 99
        · have e : min 99 n = n := by omega
          have e2 : n - 99 = 0 := by omega
          rw [e, e2]; exact h3
        · have e : min 99 n = 99 := by omega
          rw [e]
          refine ih (n - 99) (by omega) (a + 99) (fun i hi => ?_) (fun h => ?_) ?_
          · have := h1 (99 + i) (by omega)
            rwa [show a + (99 + i) = a + 99 + i by omega] at this
          · rw [show a + 99 + (n - 99) = a + n by omega] at h ⊢; exact h2 h
          · rw [show a + 99 + (n - 99) = a + n by omega]; exact h3
/-- The tokens of the runs from run j on. -/
def tkR (w : List Int) (j : Nat) : List (Int × Nat) := ((runs id w).drop j).flatMap fun r => (chs r.length).map fun m => (r.getD 0 0, m)
theorem tk_runs (w : List Int) : ∀ (d j : Nat), j + d = (runs id w).length → Tk w (offs (runs id w) j) (tkR w j)
  | 0, j, h => by
    have e : tkR w j = [] := by unfold tkR; rw [List.drop_eq_nil_of_le (by omega)]; rfl
    rw [e]
    show _ = _
    rw [show j = (runs id w).length by omega, offs_all, runs_flat]
  | d + 1, j, h => by
    have hj : j < (runs id w).length := by omega
    obtain ⟨h1, h2, h3⟩ := run_end hj
    have e : tkR w j = (chs ((runs id w).getD j []).length).map (fun m => (((runs id w).getD j []).getD 0 0, m)) ++ tkR w (j + 1) := by
      unfold tkR
      rw [List.drop_eq_getElem_cons hj, List.flatMap_cons]
      simp [List.getD_eq_getElem?_getD, hj]
    have h0 := h1 0 h3
    rw [Nat.add_zero] at h0
    rw [e]
    rw [offs_succ hj] at h2
    refine tk_run _ _ (fun i hi => ⟨(h1 i hi).1, ?_⟩) (fun h => ?_) ?_
    · have := (h1 i hi).2.2
      rw [id, id] at this
      rw [this, h0.2.1]
    · have := h2 h
      rw [id, id] at this
      rw [← h0.2.1]; exact this
    · rw [← offs_succ hj]; exact tk_runs w d (j + 1) (by omega)
/-- The tokens of a word. -/
def tks (w : List Int) : List (Int × Nat) := tkR w 0
theorem tks_tk (w : List Int) : Tk w 0 (tks w) := tk_runs w (runs id w).length 0 (Nat.zero_add _)
end Go.Wd
end
/- FormatWord, by the program. -/
section
namespace Go.Proofs.YticbabpajligbaaDoor
open Go.Av
set_option linter.unusedSimpArgs false
set_option linter.unusedVariables false
attribute [local irreducible] AWP CallG Ob Br BrP Go.Av.Sub endQ AOps OpV AC thenA blkA opsVC opVC withA withArgs opsQ opQ CallQ withA2 withArgs2
open Go.Nt (jn jnS)
open Go.Wd (tks runs chs)
/-- A token's text. -/
def tkT (names : ByteArray) (x : Int) (n : Nat) : ByteArray :=
  let s := names.extract (max x (0 - x) - 1).toNat (max x (0 - x)).toNat
  let t := if 1 < n then s ++ fmS n else s
  if x < 0 then t ++ ⟨#[39]⟩ else t
theorem eqLetters_ok (x y : Int) : AC Tryd.prog 40 [.v (.int .i64 (x)), .v (.int .i64 (y))] Hp.emp (fun _ => false) (retV (.v (.bool (Go.Wd.kf id x y)))) := by
  refine ac_of_awp (N := ⟨_, fun _ => false, fun _ _ => rfl, true⟩) Tryd.func40 rfl (by kernel_rfl) Tryd.ntmps40 (by simp) ?_
  simp only [argsFr, List.zipIdx_cons, List.zipIdx_nil, go_sem]
  repeat' (first | refine awp_seqK fun K hK => ?_ | (refine awp_regionK 19 rfl ?_; simp only [List.map_cons, List.map_nil]; simp (maxSteps := 1000000) (dsimp := false) (implicitDefEqProofs := false) (disch := omega) only [wrap64, go_sem]) | (refine awp_regionQK 19 (by kernel_rfl) (by kernel_rfl) (by kernel_rfl) ?_; simp only [List.map_cons, List.map_nil]; simp (maxSteps := 1000000) (dsimp := false) (implicitDefEqProofs := false) (disch := omega) only [wrap64, go_sem]) | refine awp_block ?_ | (refine awp_skip ?_; simp only [go_sem]) | (refine awp_exit ?_; simp only [go_sem]) | (refine awp_ret ?_; try simp only [go_sem]) | (refine awp_condP rfl ?_; try simp only [go_sem]) | (refine BrP.mk (fun h => ?_) (fun h => ?_) <;> try simp (dsimp := false) (disch := omega) only [wrap64]) | (refine Br.mk (fun h => ?_) (fun h => ?_) <;> try simp (dsimp := false) (disch := omega) only [wrap64]) | refine Ob.mk (by first | omega | (intro _ _; rfl) | trivial | (intros; trivial) | assumption | (intro i hi; have h0 : i = 0 := (by omega); subst h0; first | rfl | trivial) | (intro i hi; have h0 : i = 0 ∨ i = 1 := (by omega); rcases h0 with rfl | rfl <;> rfl) | (intro i hi; have h0 : i = 0 ∨ i = 1 ∨ i = 2 := (by omega); rcases h0 with rfl | rfl | rfl <;> rfl)) ?_ | apply_assumption -exfalso -symm)
  all_goals (first | (show endQ _ _ _ _ _ _ _; (repeat (rename (∀ (A : Fr) (H : Hp), AWP _ _ _ _ A H → _) => hK; clear hK)); (repeat (rename (Fr → Hp → Prop) => K; clear K))) | (show Exists _; (repeat (rename (∀ (A : Fr) (H : Hp), AWP _ _ _ _ A H → _) => hK; clear hK)); (repeat (rename (Fr → Hp → Prop) => K; clear K))) | skip)
  exact end_retV rfl rfl
/-- The texts of the tokens of the first k runs. -/
def tI (names : ByteArray) (rs : List (List Int)) (k : Nat) : List ByteArray := (rs.take k).flatMap fun r => (chs r.length).map fun m => tkT names (r.getD 0 0) m
def fwH (names : ByteArray) (ws : List ByteArray) : Hp := ((Hp.emp.upd 1000002 (.cells 1 fun _ => .v (.string (names)))).upd 1000005 (.cells 1 fun _ => .own 30 0 1 ws.length)).upd 30 (.cells ws.length (cM sv ByteArray.empty ws))
def rhoF (h : Nat) : Option Nat := if h = 1000002 then some 2 else if h = 1000005 then some 5 else none
theorem fwH_ne {names : ByteArray} {ws : List ByteArray} {h : Nat} (hn : fwH names ws h ≠ none) : h = 30 ∨ h = 1000005 ∨ h = 1000002 := by
  unfold fwH Hp.upd at hn
  by_cases e1 : h = 30
  · exact .inl e1
  · rw [if_neg e1] at hn
    by_cases e2 : h = 1000005
    · exact .inr (.inl e2)
    · rw [if_neg e2] at hn
      by_cases e3 : h = 1000002
      · exact .inr (.inr e3)
      · rw [if_neg e3] at hn; exact absurd rfl hn
theorem enterF {N : Cx} {A : Fr} {H : Hp} {names : ByteArray} {i m : Int} {rs : AV} (hr : rs.plain) (h24 : A.get 24 = some (.v (.int .i64 (i)))) (h23 : A.get 23 = some (.v (.int .i64 (m)))) (h22 : A.get 22 = some rs) (h5 : A.get 5 = some (.ref 5 0)) (h2 : A.get 2 = some (.ref 2 0))
    (hB : H 2 = some (.cells 1 fun _ => .v (.string (names)))) (hC : H 5 = some (.cells 1 (zF [.slice none 0 0]))) (hpn : N.pn = fun _ => false) : Sub N A H [(24, .v (.int .i64 (i))), (23, .v (.int .i64 (m))), (22, rs), (5, .ref 1000005 0), (2, .ref 1000002 0)] (fwH names []) := by
  refine Sub.layM rhoF hpn (lay_cons ⟨_, h24, .plain trivial⟩ (lay_cons ⟨_, h23, .plain trivial⟩ (lay_cons ⟨_, h22, .plain hr⟩ (lay_cons ⟨_, h5, .ref rfl⟩ (lay_cons ⟨_, h2, .ref rfl⟩ lay_nil))))) (layF_nil rfl (layF_upd (g := 5) rfl hC (fun i hi => ?_) (layF_upd (g := 2) rfl hB (fun i hi => .plain trivial) layF_emp))) (fun x y k hx hy e1 e2 => ?_)
  · obtain rfl : i = 0 := by omega
    exact .nil rfl
  · have a := fwH_ne hx
    have b := fwH_ne hy
    unfold rhoF at e1 e2
    rcases a with rfl | rfl | rfl <;> rcases b with rfl | rfl | rfl <;> simp at e1 e2 <;> omega
theorem ckB_7 : ckB 7 = false := rfl
theorem ckB_30 : ckB 30 = false := rfl
theorem ckB_A : ckB 1000002 = false := rfl
theorem ckB_B : ckB 1000005 = false := rfl
def pnF (h : Nat) : Bool := h == 1000002 || h == 1000005 || h == 1000007
theorem pnF_low {h : Nat} (hh : h < 65) : pnF h = false := by
  unfold pnF
  simp only [Bool.or_eq_false_iff, beq_eq_false_iff_ne, ne_eq]
  omega
/-- A round's frame: the boxes stay where they are. -/
abbrev N2 : Cx := { n := 65, pn := pnF, low := fun _ hh => pnF_low hh, out := false }
def fwL (names : ByteArray) (ws : List ByteArray) (r : List Int) : Hp := (fwH names ws).upd 1000007 (.cells 1 fun _ => ints r)
def fwA (i m : Int) (rs : AV) : Fr := [(24, .v (.int .i64 (i))), (23, .v (.int .i64 (m))), (22, rs), (5, .ref 1000005 0), (2, .ref 1000002 0), (7, .ref 1000007 0)]
theorem fwL_ne {names : ByteArray} {ws : List ByteArray} {r : List Int} {h : Nat} (hn : fwL names ws r h ≠ none) : h = 30 ∨ h = 1000005 ∨ h = 1000002 ∨ h = 1000007 := by
  unfold fwL at hn
  by_cases e : h = 1000007
  · exact .inr (.inr (.inr e))
  · have : (fwH names ws).upd 1000007 (.cells 1 fun _ => ints r) h = fwH names ws h := if_neg e
    rw [this] at hn
    rcases fwH_ne hn with h | h | h
    · exact .inl h
    · exact .inr (.inl h)
    · exact .inr (.inr (.inl h))
theorem fwL_cells {names : ByteArray} {ws : List ByteArray} {r : List Int} {h : Nat} {B : Blk} (hB : fwL names ws r h = some B) : ∃ n f, B = .cells n f := by
  unfold fwL fwH Hp.upd at hB
  by_cases e0 : h = 1000007
  · rw [if_pos e0] at hB; exact ⟨_, _, (Option.some.inj hB).symm⟩
  · rw [if_neg e0] at hB
    by_cases e1 : h = 30
    · rw [if_pos e1] at hB; exact ⟨_, _, (Option.some.inj hB).symm⟩
    · rw [if_neg e1] at hB
      by_cases e2 : h = 1000005
      · rw [if_pos e2] at hB; exact ⟨_, _, (Option.some.inj hB).symm⟩
      · rw [if_neg e2] at hB
        by_cases e3 : h = 1000002
        · rw [if_pos e3] at hB; exact ⟨_, _, (Option.some.inj hB).symm⟩
        · rw [if_neg e3] at hB; cases hB
def rhoG9 (h : Nat) : Option Nat := if h = 1000007 then some 7 else some h
theorem Fr.all_get {p : AV → Prop} : ∀ (A : Fr), (∀ x ∈ A, p x.2) → ∀ i a, A.get i = some a → p a
  | [], _, i, a, h => by simp [Fr.get] at h
  | (k, b) :: r, hA, i, a, h => by
    simp only [Fr.get] at h
    split at h
    · simp only [Option.some.injEq] at h; subst h; exact hA _ (List.mem_cons_self ..)
    · exact Fr.all_get r (fun x hx => hA x (List.mem_cons_of_mem _ hx)) i a h
theorem fits_chunk {H : Hp} {D : Nat → Prop} (r : List Int) (j : Nat) : Fits H D (chA 99 r.length (cM iv 0 r) j) (ints ((r.drop (99 * j)).take 99)) := by
  have e : ((r.drop (99 * j)).take 99).length = min 99 (r.length - 99 * j) := by rw [List.length_take, List.length_drop]
  unfold ints chA
  rw [e]
  refine .list (fun h => by cases h) (fun i hi => trivial) (fun i hi => .ofEq ?_)
  rw [Nat.mul_one] at hi
  show iv (r.getD (99 * j + i) 0) = iv (((r.drop (99 * j)).take 99).getD i 0)
  congr 1
  simp only [List.getD_eq_getElem?_getD, List.getElem?_take, List.getElem?_drop]
  rw [if_pos (by omega)]
theorem fw_chunks {N : Cx} {id : Nat} {asg : Oper} {body : Code} {Q : Exit → Fr → Hp → Prop} {A : Fr} {H : Hp} {names : ByteArray} {ws : List ByteArray} {r : List Int} {i m : Int} {rs : AV} {F7 : Nat → AV} (T : Nat → ByteArray)
    (hrs : rs.plain) (hrc : ∀ p, rs.scrub p = rs) (hrl : 1 ≤ r.length ∧ r.length ≤ 1048576) (hN : N.n = 65) (hpn : N.pn = fun _ => false) (hout : N.out = true) (hop : asg.op = .assign (.tmp 30)) (had : asg.dst = some 8) (hag : asg.guard = none)
    (h29 : A.get 29 = some (.clo 74 2 (vecF [.ref 2 0, .ref 3 0]))) (h24 : A.get 24 = some (.v (.int .i64 (i)))) (h23 : A.get 23 = some (.v (.int .i64 (m)))) (h22 : A.get 22 = some rs) (h5 : A.get 5 = some (.ref 1000005 0)) (h2 : A.get 2 = some (.ref 1000002 0)) (h7 : A.get 7 = some (.ref 7 0))
    (g2 : H 2 = some (.cells 1 fun _ => ints r)) (g3 : H 3 = some (.cells 1 fun _ => .v (.int .i64 (99)))) (g7 : H 7 = some (.cells 1 F7)) (e7 : F7 0 = ints r) (gA : H 1000002 = some (.cells 1 fun _ => .v (.string (names)))) (gB : H 1000005 = some (.cells 1 fun _ => .own 30 0 1 ws.length)) (gC : H 30 = some (.cells ws.length (cM sv ByteArray.empty ws)))
    (hbody : ∀ (pre : List Nat) (j : Nat), pre.length < nch 99 r.length → AWP Tryd.prog N2 body (fun e A H => e = .normal ∧ Sub N2 A H [] (fwL names (ws ++ (pre ++ [j]).map T) r)) ((8, ints ((r.drop (99 * j)).take 99)) :: fwA i m rs) (fwL names (ws ++ pre.map T) r))
    (hdone : Q .normal (fwA i m rs) (fwL names (ws ++ (List.range (nch 99 r.length)).map T) r)) : AWP Tryd.prog N (.rangeFunc (.tmp 29) #[30] (.region id #[asg] false) body) Q A H := by
  have hsub : Sub N A H ((29, .clo 74 2 (vecF [.ref 2 0, .ref 3 0])) :: fwA i m rs) (((fwL names ws r).upd 2 (.cells 1 fun _ => ints r)).upd 3 (.cells 1 fun _ => .v (.int .i64 (99)))) := by
    refine Sub.layM rhoG9 hpn (lay_cons ⟨_, h29, .clo fun i hi => ?_⟩ (lay_cons ⟨_, h24, .plain trivial⟩ (lay_cons ⟨_, h23, .plain trivial⟩ (lay_cons ⟨_, h22, .plain hrs⟩ (lay_cons ⟨_, h5, .ref rfl⟩ (lay_cons ⟨_, h2, .ref rfl⟩ (lay_cons ⟨_, h7, .ref rfl⟩ lay_nil)))))))
      (layF_upd (g := 3) rfl g3 (fun _ _ => .plain trivial) (layF_upd (g := 2) rfl g2 (fun _ _ => .plain trivial) (layF_upd (g := 7) rfl g7 (fun i hi => ?_) (layF_upd (g := 30) rfl gC (fun _ _ => .plain trivial) (layF_upd (g := 1000005) rfl gB (fun _ _ => .own rfl) (layF_upd (g := 1000002) rfl gA (fun _ _ => .plain trivial) layF_emp)))))) (fun x y k hx hy e1 e2 => ?_)
    · match i, hi with
      | 0, _ => exact .ref rfl
      | 1, _ => exact .ref rfl
    · obtain rfl : i = 0 := by omega
      rw [e7]; exact .plain trivial
    · have live : ∀ x, (((fwL names ws r).upd 2 (.cells 1 fun _ => ints r)).upd 3 (.cells 1 fun _ => .v (.int .i64 (99)))) x ≠ none → x ≠ 7 := fun x hx e => by
        subst e
        exact hx rfl
      have a := live x hx
      have b := live y hy
      unfold rhoG9 at e1 e2
      split at e1 <;> split at e2 <;> simp only [Option.some.injEq] at e1 e2 <;> omega
  refine awp_sub hsub (awp_chunks (N' := N2) (u := 8) (h1 := 2) (o1 := 0) (h2 := 3) (o2 := 0) (nn := false) (len := r.length) (f := cM iv 0 r) (fwA i m rs) (fun pre => fwL names (ws ++ pre.map T) r) chunk_it (by kernel_rfl) hout hN.symm rfl (fun h hh => by rw [hpn] at hh; cases hh) (by rw [hN]; decide) (by rw [hN]; decide) hop had hag rfl rfl rfl rfl (by decide) rfl hrl rfl (by decide) rfl ?_ ?_ ?_ rfl rfl (fun pre h kv hh => by obtain ⟨n, f, e⟩ := fwL_cells hh; cases e) (fun pre j hp => ?_) hdone)
  · exact Fr.sub_get _ _ ⟨rfl, rfl, rfl, rfl, rfl, rfl, trivial⟩
  · refine Fr.all_get _ ?_
    unfold fwA
    simp only [List.forall_mem_cons]
    exact ⟨rfl, rfl, hrc _, rfl, rfl, rfl, fun _ h => by cases h⟩
  · intro h B hB
    have e : fwL names (ws ++ [].map T) r = fwL names ws r := by rw [List.map_nil, List.append_nil]
    rw [e] at hB
    have hn : h ≠ 2 ∧ h ≠ 3 := by
      have := fwL_ne (h := h) (by rw [hB]; simp)
      omega
    show Hp.upd _ _ _ h = _
    unfold Hp.upd
    rw [if_neg hn.2, if_neg hn.1]
    exact hB
  · refine awp_sub (Sub.toFF (fun _ => False) (Fr.fit_cons rfl (fits_chunk r j) (Fr.fit_cons rfl (.refl _) (Fr.fit_cons rfl (.refl _) (Fr.fit_cons rfl (.refl _) (Fr.fit_cons rfl (.refl _) (Fr.fit_cons rfl (.refl _) (Fr.fit_cons rfl (.refl _) (Fr.fit_nil _)))))))) (fun x B h => ⟨fun h => h, B, h, BFits.refl _ _ _⟩)) (hbody pre j hp)
theorem tI_len (names : ByteArray) (rs : List (List Int)) (k : Nat) : (tI names rs k).length ≤ rs.flatten.length := by
  have key : ∀ l : List (List Int), (l.flatMap fun r => (chs r.length).map fun m => tkT names (r.getD 0 0) m).length ≤ l.flatten.length := by
    intro l
    induction l with
    | nil => simp
    | cons a l ih =>
      have : (chs a.length).length ≤ a.length := by unfold chs nch; rw [List.length_map, List.length_range]; omega
      rw [List.flatMap_cons, List.flatten_cons, List.length_append, List.length_append, List.length_map]
      omega
  have h1 := key (rs.take k)
  have h2 : (rs.take k).flatten.length ≤ rs.flatten.length := by
    have := congrArg (fun l => l.flatten.length) (List.take_append_drop k rs)
    simp only [List.flatten_append, List.length_append] at this
    omega
  unfold tI; omega
theorem tI_succ {names : ByteArray} {rs : List (List Int)} {k : Nat} (hk : k < rs.length) : tI names rs (k + 1) = tI names rs k ++ (List.range (nch 99 (rs.getD k []).length)).map fun j => tkT names ((rs.getD k []).getD 0 0) (min 99 ((rs.getD k []).length - 99 * j)) := by
  unfold tI
  rw [List.take_add_one, List.getElem?_eq_getElem hk, List.flatMap_append]
  congr 1
  simp only [Option.toList_some, List.flatMap_cons, List.flatMap_nil, List.append_nil]
  have e : rs.getD k [] = rs[k] := by simp [List.getD_eq_getElem?_getD, hk]
  rw [e]
  unfold chs
  rw [List.map_map]
  rfl
theorem tkT_size (names : ByteArray) (hn : names.size ≤ 8) (x : Int) (n : Nat) : (tkT names x n).size ≤ 12 := by
  have h1 : (names.extract (max x (0 - x) - 1).toNat (max x (0 - x)).toNat).size ≤ 8 := by rw [ByteArray.size_extract]; omega
  have h2 := fmS_size n
  have h3 : (⟨#[39]⟩ : ByteArray).size = 1 := rfl
  unfold tkT
  dsimp only
  split <;> split <;> (try rw [ByteArray.size_append]) <;> (try rw [ByteArray.size_append]) <;> omega
theorem sumS_mul {c : Nat} : ∀ (l : List ByteArray), (∀ x ∈ l, x.size ≤ c) → Go.Nt.sumS l ≤ (c + 1) * l.length
  | [], _ => by simp [Go.Nt.sumS]
  | a :: l, h => by
    have h1 := sumS_mul l fun x hx => h x (List.mem_cons_of_mem _ hx)
    have h2 := h a (List.mem_cons_self ..)
    simp only [Go.Nt.sumS, List.map_cons, List.sum_cons, List.length_cons] at h1 ⊢
    rw [Nat.mul_succ]
    omega
theorem fits_Ss {H : Hp} {D : Nat → Prop} {h : Nat} {ws : List ByteArray} (hH : H h = some (.cells ws.length (cM sv ByteArray.empty ws))) (hD : D h) : Fits H D (.own h 0 1 ws.length) (strs ws) :=
  .own hH hD (by omega) (fun _ _ => trivial) fun i hi => by rw [Nat.zero_add]; exact .refl _
theorem fw_back {A : Fr} {H : Hp} {names X : ByteArray} {vs us : List ByteArray} {r : List Int} {F5 G : Nat → AV} {p : Nat → Bool} (eu : us = vs ++ [X]) (hB : H 1000002 = some (.cells 1 fun _ => .v (.string (names)))) (hC : H 1000005 = some (.cells 1 F5)) (hF5 : F5 0 = .own 30 0 1 (vs.length + 1))
    (hR : H 30 = some (.cells (vs.length + 1) (apF vs.length (scF p (cM sv ByteArray.empty vs)) (scF p G)))) (hG : G 0 = .v (.string (X))) (h7 : H 1000007 = some (.cells 1 fun _ => ints r)) : Sub N2 A H [] (fwL names us r) := by
  have el : us.length = vs.length + 1 := by rw [eu, List.length_append]; rfl
  refine Sub.toFF (fun _ => False) (Fr.fit_nil _) (leF_upd h7 (bfE rfl fun _ _ => rfl) (leF_upd hR (bfE el.symm fun i hi => ?_) (leF_upd hC (bfE rfl fun i hi => ?_) (leF_upd hB (bfE rfl fun _ _ => rfl) leF_emp id) id) id) id)
  · rw [eu]
    unfold apF cM
    by_cases h : i < vs.length
    · rw [if_pos h]
      show (sv (vs.getD i _)).scrub p = _
      simp [List.getD_eq_getElem?_getD, List.getElem?_append_left h, sv, AV.scrub]
    · have : i = vs.length := by omega
      subst this
      rw [if_neg h, Nat.sub_self]
      show (G 0).scrub p = _
      rw [hG]
      simp [List.getD_eq_getElem?_getD, sv, AV.scrub]
  · obtain rfl : i = 0 := by omega
    rw [hF5, el]
theorem fw_out {N : Cx} {A : Fr} {H : Hp} {names : ByteArray} {us : List ByteArray} {i m : Int} {rs : AV} (h24 : A.get 24 = some (.v (.int .i64 (i)))) (h23 : A.get 23 = some (.v (.int .i64 (m)))) (h22 : A.get 22 = some rs) (h5 : A.get 5 = some (.ref 1000005 0)) (h2 : A.get 2 = some (.ref 1000002 0))
    (hB : H 1000002 = some (.cells 1 fun _ => .v (.string (names)))) (hC : H 1000005 = some (.cells 1 fun _ => .own 30 0 1 us.length)) (hR : H 30 = some (.cells us.length (cM sv ByteArray.empty us))) : Sub N A H [(24, .v (.int .i64 (i))), (23, .v (.int .i64 (m))), (22, rs), (5, .ref 1000005 0), (2, .ref 1000002 0)] (fwH names us) :=
  Sub.toFF (fun _ => False) (Fr.fit_cons h24 (.refl _) (Fr.fit_cons h23 (.refl _) (Fr.fit_cons h22 (.refl _) (Fr.fit_cons h5 (.refl _) (Fr.fit_cons h2 (.refl _) (Fr.fit_nil _)))))) (leF_upd hR (bfE rfl fun _ _ => rfl) (leF_upd hC (bfE rfl fun _ _ => rfl) (leF_upd hB (bfE rfl fun _ _ => rfl) leF_emp id) id) id)
/-- What FormatWord answers. -/
def fwP (names : ByteArray) (w : List Int) : ByteArray := if nmP names ∧ isW names.size w then jn ((tks w).map fun p => tkT names p.1 p.2) else ⟨#[]⟩
theorem fwP_yes {names : ByteArray} {w : List Int} (h : nmP names) (h2 : isW names.size w) : fwP names w = jn ((tks w).map fun p => tkT names p.1 p.2) := if_pos ⟨h, h2⟩
theorem fwP_no {names : ByteArray} {w : List Int} (h : ¬ (nmP names ∧ isW names.size w)) : fwP names w = ⟨#[]⟩ := if_neg h
theorem tI_all (names : ByteArray) (w : List Int) : tI names (Go.Wd.runsK (Go.Wd.kf id) w w.length) (Go.Wd.runsK (Go.Wd.kf id) w w.length).length = (tks w).map fun p => tkT names p.1 p.2 := by
  unfold tI Go.Wd.tks Go.Wd.tkR
  rw [List.take_length, List.drop_zero, List.map_flatMap]
  show _ = List.flatMap _ _
  congr 1
  funext r
  rw [List.map_map]
  rfl
theorem run_facts {g : Int} {w : List Int} {rs : List (List Int)} (ers : rs = Go.Wd.runsK (Go.Wd.kf id) w w.length) (h2 : isW g w) (k : Nat) (hk : k < rs.length) : (1 ≤ (rs.getD k []).length ∧ (rs.getD k []).length ≤ 1048576) ∧ isL g ((rs.getD k []).getD 0 0) := by
  have e : rs = Go.Wd.runs id w := ers
  subst e
  obtain ⟨h3, _, h4⟩ := Go.Wd.run_end hk
  have h5 := h3 0 h4
  rw [Nat.add_zero] at h5
  have h6 := len_flat (Go.Wd.runs id w) k
  rw [Go.Wd.runs_flat] at h6
  have h7 := h2.1
  refine ⟨⟨h4, by omega⟩, ?_⟩
  rw [← h5.2.1]; exact h2.2 _ h5.1
set_option maxHeartbeats 4000000 in
theorem implFormatWord_ok (names : ByteArray) (w : List Int) (hs : names.size ≤ 1048576) (hw : w.length ≤ 1048576) : AC Tryd.prog 10 [.v (.string (names)), ints w] Hp.emp (fun _ => false) (retV (.v (.string (fwP names w)))) := by
  have hnm := isNames_ok names (by omega)
  have hvl := implIsValidWord_ok names.size w (by omega)
  by_cases h1 : (1 ≤ names.size ∧ names.size ≤ 8) ∧ ∀ i, i < names.size → isName names i
  · rw [decide_eq_true h1] at hnm
    by_cases h2 : isW names.size w
    · rw [decide_eq_true h2] at hvl
      have hrn := runs_okA w 40 (Go.Wd.kf id) hw (fun i j _ _ => eqLetters_ok _ _)
      obtain ⟨rs, ers⟩ : ∃ rs, rs = Go.Wd.runsK (Go.Wd.kf id) w w.length := ⟨_, rfl⟩
      rw [← ers] at hrn
      have hnm := Hold.mk hnm
      have hvl := Hold.mk hvl
      have hrn := Hold.mk hrn
      refine ac_of_awp (N := ⟨_, fun _ => false, fun _ _ => rfl, true⟩) Tryd.func10 rfl (by kernel_rfl) Tryd.ntmps10 (by simp) ?_
      simp only [argsFr, List.zipIdx_cons, List.zipIdx_nil, go_sem]
      repeat' (first | refine awp_seqK fun K hK => ?_ | (refine awp_regionK 36099167437719479 rfl ?_; simp only [List.map_cons, List.map_nil]; simp (maxSteps := 1000000) (dsimp := false) (implicitDefEqProofs := false) (disch := omega) only [wrap64, go_sem]) | (refine awp_regionQK 36099167437719479 (by kernel_rfl) (by kernel_rfl) (by kernel_rfl) ?_; simp only [List.map_cons, List.map_nil]; simp (maxSteps := 1000000) (dsimp := false) (implicitDefEqProofs := false) (disch := omega) only [wrap64, go_sem]) | refine awp_block ?_ | (refine awp_skip ?_; simp only [go_sem]) | (refine awp_exit ?_; simp only [go_sem]) | (refine awp_ret ?_; try simp only [go_sem]) | (refine awp_condP rfl ?_; try simp only [go_sem]) | (refine BrP.mk (fun h => ?_) (fun h => ?_) <;> try simp (dsimp := false) (disch := omega) only [wrap64]) | (refine Br.mk (fun h => ?_) (fun h => ?_) <;> try simp (dsimp := false) (disch := omega) only [wrap64]) | refine Ob.mk (by first | omega | (intro _ _; rfl) | trivial | (intros; trivial) | assumption | (intro i hi; have h0 : i = 0 := (by omega); subst h0; first | rfl | trivial) | (intro i hi; have h0 : i = 0 ∨ i = 1 := (by omega); rcases h0 with rfl | rfl <;> rfl) | (intro i hi; have h0 : i = 0 ∨ i = 1 ∨ i = 2 := (by omega); rcases h0 with rfl | rfl | rfl <;> rfl)) ?_ | ((first | ((first | refine atF (f := 37) ?_ | refine atQ (f := 37) ?_); (first | refine cV (hfit := .cons (.refl _) .nil) (hac := hnm.h) (hK := ?_) | refine cQV (hfit := .cons (.refl _) .nil) (hac := hnm.h) (hK := ?_))) | ((first | refine atF (f := 38) ?_ | refine atQ (f := 38) ?_); (first | refine cV (hfit := .cons (.refl _) (.cons (.refl _) .nil)) (hac := hvl.h) (hK := ?_) | refine cQV (hfit := .cons (.refl _) (.cons (.refl _) .nil)) (hac := hvl.h) (hK := ?_))) | ((first | refine atF (f := 39) ?_ | refine atQ (f := 39) ?_); (refine cR (hac := hrn.h) (hs := by rfl) (hK := ?_)))); simp (maxSteps := 1000000) (dsimp := false) (implicitDefEqProofs := false) (disch := omega) only [wrap64, go_sem]) | apply_assumption -exfalso -symm)
      all_goals (first | (show endQ _ _ _ _ _ _ _; (repeat (rename (∀ (A : Fr) (H : Hp), AWP _ _ _ _ A H → _) => hK; clear hK)); (repeat (rename (Fr → Hp → Prop) => K; clear K))) | (show Exists _; (repeat (rename (∀ (A : Fr) (H : Hp), AWP _ _ _ _ A H → _) => hK; clear hK)); (repeat (rename (Fr → Hp → Prop) => K; clear K))) | skip)
      have hrl2 : rs.length ≤ w.length := by rw [ers]; exact (Go.Wd.runsK_pos _ w _).2
      have hw2 := h2.1
      refine awp_loop (ι := Nat) (fun k => [(24, .v (.int .i64 (k))), (23, .v (.int .i64 (rs.length))), (22, intss rs), (5, .ref 1000005 0), (2, .ref 1000002 0)]) (fun k => fwH names (tI names rs k)) (fun k => k ≤ rs.length) (fun k => rs.length - k) 0 (Nat.zero_le _) (enterF trivial rfl rfl rfl rfl rfl rfl rfl rfl) ?_
      intro k hk
      obtain ⟨ws, ews⟩ : ∃ ws, ws = tI names rs k := ⟨_, rfl⟩
      rw [← ews]
      unfold fwH
      have hrun := run_facts ers h2 k
      have hrl : k < rs.length → 1 ≤ (rs.getD k []).length ∧ (rs.getD k []).length ≤ 1048576 := fun h => (hrun h).1
      repeat' (first | (refine fw_chunks (names := names) (ws := ws) (r := rs.getD k []) (rs := intss rs) (fun j => tkT names ((rs.getD k []).getD 0 0) (min 99 ((rs.getD k []).length - 99 * j))) trivial (fun _ => rfl) (hrl (by omega)) rfl rfl rfl rfl rfl rfl rfl rfl rfl rfl rfl rfl rfl rfl rfl rfl rfl rfl rfl rfl ?_ ?_; rotate_left; unfold fwA fwL fwH; simp only [go_sem]; rotate_right) | refine awp_seqK fun K hK => ?_ | (refine awp_regionK 36099167437719479 rfl ?_; simp only [List.map_cons, List.map_nil]; simp (maxSteps := 1000000) (dsimp := false) (implicitDefEqProofs := false) (disch := omega) only [wrap64, go_sem, ckB_7, ckB_30, ckB_A, ckB_B, Bool.false_eq_true]) | (refine awp_regionQK 36099167437719479 (by kernel_rfl) (by kernel_rfl) (by kernel_rfl) ?_; simp only [List.map_cons, List.map_nil]; simp (maxSteps := 1000000) (dsimp := false) (implicitDefEqProofs := false) (disch := omega) only [wrap64, go_sem, ckB_7, ckB_30, ckB_A, ckB_B, Bool.false_eq_true]) | refine awp_block ?_ | (refine awp_skip ?_; simp only [go_sem, ckB_7, ckB_30, ckB_A, ckB_B, Bool.false_eq_true]) | (refine awp_exit ?_; simp only [go_sem, ckB_7, ckB_30, ckB_A, ckB_B, Bool.false_eq_true]) | (refine awp_ret ?_; try simp only [go_sem, ckB_7, ckB_30, ckB_A, ckB_B, Bool.false_eq_true]) | (refine awp_condP rfl ?_; try simp only [go_sem, ckB_7, ckB_30, ckB_A, ckB_B, Bool.false_eq_true]) | (refine BrP.mk (fun h => ?_) (fun h => ?_) <;> try simp (dsimp := false) (disch := omega) only [wrap64]) | (refine Br.mk (fun h => ?_) (fun h => ?_) <;> try simp (dsimp := false) (disch := omega) only [wrap64]) | refine Ob.mk (by first | omega | (intro _ _; rfl) | trivial | (intros; trivial) | assumption | (intro i hi; have h0 : i = 0 := (by omega); subst h0; first | rfl | trivial) | (intro i hi; have h0 : i = 0 ∨ i = 1 := (by omega); rcases h0 with rfl | rfl <;> rfl) | (intro i hi; have h0 : i = 0 ∨ i = 1 ∨ i = 2 := (by omega); rcases h0 with rfl | rfl | rfl <;> rfl)) ?_ | ((first | ((first | refine atF (f := 41) ?_ | refine atQ (f := 41) ?_); (refine callCk (hac := chunk_ok _) (fun _ => rfl) (fun _ => rfl) (fun h hh => by cases hh) ?_))); simp (maxSteps := 1000000) (dsimp := false) (implicitDefEqProofs := false) (disch := omega) only [wrap64, go_sem, ckB_7, ckB_30, ckB_A, ckB_B, Bool.false_eq_true]) | apply_assumption -exfalso -symm)
      all_goals (first | (show endQ _ _ _ _ _ _ _; (repeat (rename (∀ (A : Fr) (H : Hp), AWP _ _ _ _ A H → _) => hK; clear hK)); (repeat (rename (Fr → Hp → Prop) => K; clear K))) | (show Exists _; (repeat (rename (∀ (A : Fr) (H : Hp), AWP _ _ _ _ A H → _) => hK; clear hK)); (repeat (rename (Fr → Hp → Prop) => K; clear K))) | skip)
      · intro pre j hp
        obtain ⟨r, er⟩ : ∃ r, r = rs.getD k [] := ⟨_, rfl⟩
        have hr := hrun (by omega)
        rw [← er] at hp hr ⊢
        obtain ⟨⟨hr1, hr2⟩, hx0, hx1, hx2, hx3⟩ := hr
        obtain ⟨vs, evs⟩ : ∃ vs, vs = ws ++ pre.map (fun j => tkT names (r.getD 0 0) (min 99 (r.length - 99 * j))) := ⟨_, rfl⟩
        rw [← evs]
        have hck : ((r.drop (99 * j)).take 99).length = min 99 (r.length - 99 * j) := by rw [List.length_take, List.length_drop]
        obtain ⟨ck, eck⟩ : ∃ ck, ck = (r.drop (99 * j)).take 99 := ⟨_, rfl⟩
        rw [← eck] at hck ⊢
        obtain ⟨x, ex⟩ : ∃ x, x = r.getD 0 0 := ⟨_, rfl⟩
        have e0 : r.getD (Int.toNat 0) 0 = x := ex.symm
        rw [← ex] at hx0 hx1 hx2 hx3 ⊢
        have hvl2 : vs.length ≤ 3000000 := by
          have h5 := tI_len names rs k
          rw [← ews] at h5
          have h6 : rs.flatten = w := by rw [ers]; exact Go.Wd.runs_flat id w
          have h7 : nch 99 r.length ≤ r.length := by unfold nch; omega
          rw [evs, List.length_append, List.length_map]
          rw [h6] at h5
          omega
        have hdec := decimal_ok ck.length (by omega)
        obtain ⟨F, eF⟩ : ∃ F, F = fmS ck.length := ⟨_, rfl⟩
        have hF : F.size ≤ 3 := by rw [eF]; exact fmS_size _
        rw [← eF] at hdec
        obtain ⟨s, es⟩ : ∃ s, names.extract (max x (0 - x) - 1).toNat (max x (0 - x)).toNat = s := ⟨_, rfl⟩
        have hs1 : s.size ≤ 8 := by rw [← es, ByteArray.size_extract]; omega
        have etk : tkT names x (min 99 (r.length - 99 * j)) = if x < 0 then (if 1 < ck.length then s ++ F else s) ++ ⟨#[39]⟩ else (if 1 < ck.length then s ++ F else s) := by unfold tkT; rw [es, eF, hck]
        have hdec := Hold.mk hdec
        unfold fwA fwL fwH
        repeat' (first | refine awp_seqK fun K hK => ?_ | (refine awp_regionK 36099167437719479 rfl ?_; simp only [List.map_cons, List.map_nil]; simp (maxSteps := 1000000) (dsimp := false) (implicitDefEqProofs := false) (disch := omega) only [wrap64, go_sem, e0, es]) | (refine awp_regionQK 36099167437719479 (by kernel_rfl) (by kernel_rfl) (by kernel_rfl) ?_; simp only [List.map_cons, List.map_nil]; simp (maxSteps := 1000000) (dsimp := false) (implicitDefEqProofs := false) (disch := omega) only [wrap64, go_sem, e0, es]) | refine awp_block ?_ | (refine awp_skip ?_; simp only [go_sem, e0, es]) | (refine awp_exit ?_; simp only [go_sem, e0, es]) | (refine awp_ret ?_; try simp only [go_sem, e0, es]) | (refine awp_condP rfl ?_; try simp only [go_sem, e0, es]) | (refine BrP.mk (fun h => ?_) (fun h => ?_) <;> try simp (dsimp := false) (disch := omega) only [wrap64]) | (refine Br.mk (fun h => ?_) (fun h => ?_) <;> try simp (dsimp := false) (disch := omega) only [wrap64]) | refine Ob.mk (by first | omega | (intro _ _; rfl) | trivial | (intros; trivial) | assumption | (intro i hi; have h0 : i = 0 := (by omega); subst h0; first | rfl | trivial) | (intro i hi; have h0 : i = 0 ∨ i = 1 := (by omega); rcases h0 with rfl | rfl <;> rfl) | (intro i hi; have h0 : i = 0 ∨ i = 1 ∨ i = 2 := (by omega); rcases h0 with rfl | rfl | rfl <;> rfl)) ?_ | ((first | ((first | refine atF (f := 43) ?_ | refine atQ (f := 43) ?_); (first | (refine cV (hac := length_ok ck) (hK := ?_)) | (refine cQV (hac := length_ok ck) (hK := ?_)))) | ((first | refine atF (f := 42) ?_ | refine atQ (f := 42) ?_); (refine cV (hfit := .cons (.refl _) .nil) (hac := hdec.h) (hK := ?_)))); simp (maxSteps := 1000000) (dsimp := false) (implicitDefEqProofs := false) (disch := omega) only [wrap64, go_sem, e0, es]) | apply_assumption -exfalso -symm)
        all_goals (first | (show endQ _ _ _ _ _ _ _; (repeat (rename (∀ (A : Fr) (H : Hp), AWP _ _ _ _ A H → _) => hK; clear hK)); (repeat (rename (Fr → Hp → Prop) => K; clear K))) | (show Exists _; (repeat (rename (∀ (A : Fr) (H : Hp), AWP _ _ _ _ A H → _) => hK; clear hK)); (repeat (rename (Fr → Hp → Prop) => K; clear K))) | skip)
        all_goals first
          | (refine fw_back (X := tkT names x (min 99 (r.length - 99 * j))) ?_ rfl rfl rfl rfl ?_ rfl
             · rw [evs, ← ex, List.map_append, ← List.append_assoc]; rfl
             · rw [etk]; first | (rw [if_pos (by omega), if_pos (by omega)]; rfl) | (rw [if_pos (by omega), if_neg (by omega)]; rfl) | (rw [if_neg (by omega), if_pos (by omega)]; rfl) | (rw [if_neg (by omega), if_neg (by omega)]; rfl))
      · refine ⟨k + 1, by omega, by omega, ?_⟩
        have e := tI_succ (names := names) (rs := rs) (k := k) (by omega)
        rw [← ews] at e
        rw [e]
        exact fw_out rfl rfl rfl rfl rfl rfl rfl rfl
      · have e : k = rs.length := by omega
        subst e
        have hsz : (jn ws).size ≤ 140737488355328 ∧ ws.length ≤ 1048576 := by
          have a1 := Go.Nt.jn_size ws
          have a2 := tI_len names rs rs.length
          have a3 : rs.flatten = w := by rw [ers]; exact Go.Wd.runs_flat id w
          rw [← ews, a3] at a2
          have a4 := sumS_mul (c := 12) ws fun x hx => by
            rw [ews] at hx
            unfold tI at hx
            obtain ⟨r, _, hx⟩ := List.mem_flatMap.1 hx
            obtain ⟨m, _, rfl⟩ := List.mem_map.1 hx
            exact tkT_size names h1.1.2 _ _
          omega
        have hjn := join_ok ws hsz.2 hsz.1
        repeat' (first | refine awp_seqK fun K hK => ?_ | (refine awp_regionK 36099167437719479 rfl ?_; simp only [List.map_cons, List.map_nil]; simp (maxSteps := 1000000) (dsimp := false) (implicitDefEqProofs := false) (disch := omega) only [wrap64, go_sem]) | (refine awp_regionQK 36099167437719479 (by kernel_rfl) (by kernel_rfl) (by kernel_rfl) ?_; simp only [List.map_cons, List.map_nil]; simp (maxSteps := 1000000) (dsimp := false) (implicitDefEqProofs := false) (disch := omega) only [wrap64, go_sem]) | refine awp_block ?_ | (refine awp_skip ?_; simp only [go_sem]) | (refine awp_exit ?_; simp only [go_sem]) | (refine awp_ret ?_; try simp only [go_sem]) | (refine awp_condP rfl ?_; try simp only [go_sem]) | (refine BrP.mk (fun h => ?_) (fun h => ?_) <;> try simp (dsimp := false) (disch := omega) only [wrap64]) | (refine Br.mk (fun h => ?_) (fun h => ?_) <;> try simp (dsimp := false) (disch := omega) only [wrap64]) | refine Ob.mk (by first | omega | (intro _ _; rfl) | trivial | (intros; trivial) | assumption | (intro i hi; have h0 : i = 0 := (by omega); subst h0; first | rfl | trivial) | (intro i hi; have h0 : i = 0 ∨ i = 1 := (by omega); rcases h0 with rfl | rfl <;> rfl) | (intro i hi; have h0 : i = 0 ∨ i = 1 ∨ i = 2 := (by omega); rcases h0 with rfl | rfl | rfl <;> rfl)) ?_ | ((first | ((first | refine atF (f := 44) ?_ | refine atQ (f := 44) ?_); (refine cV (hfit := .cons (fits_Ss rfl trivial) (.cons (.refl _) .nil)) (hac := hjn) (hK := ?_)))); simp (maxSteps := 1000000) (dsimp := false) (implicitDefEqProofs := false) (disch := omega) only [wrap64, go_sem]) | apply_assumption -exfalso -symm)
        all_goals (first | (show endQ _ _ _ _ _ _ _; (repeat (rename (∀ (A : Fr) (H : Hp), AWP _ _ _ _ A H → _) => hK; clear hK)); (repeat (rename (Fr → Hp → Prop) => K; clear K))) | (show Exists _; (repeat (rename (∀ (A : Fr) (H : Hp), AWP _ _ _ _ A H → _) => hK; clear hK)); (repeat (rename (Fr → Hp → Prop) => K; clear K))) | skip)
        refine end_retV' rfl rfl ?_
        rw [fwP_yes h1 h2, ews, ers, tI_all]
    · rw [decide_eq_false h2] at hvl
      rw [fwP_no (fun h => h2 h.2)]
      have hnm := Hold.mk hnm
      have hvl := Hold.mk hvl
      clear h1 h2
      refine ac_of_awp (N := ⟨_, fun _ => false, fun _ _ => rfl, true⟩) Tryd.func10 rfl (by kernel_rfl) Tryd.ntmps10 (by simp) ?_
      simp only [argsFr, List.zipIdx_cons, List.zipIdx_nil, go_sem]
      repeat' (first | refine awp_seqK fun K hK => ?_ | (refine awp_regionK 36099167437719479 rfl ?_; simp only [List.map_cons, List.map_nil]; simp (maxSteps := 1000000) (dsimp := false) (implicitDefEqProofs := false) (disch := omega) only [wrap64, go_sem]) | (refine awp_regionQK 36099167437719479 (by kernel_rfl) (by kernel_rfl) (by kernel_rfl) ?_; simp only [List.map_cons, List.map_nil]; simp (maxSteps := 1000000) (dsimp := false) (implicitDefEqProofs := false) (disch := omega) only [wrap64, go_sem]) | refine awp_block ?_ | (refine awp_skip ?_; simp only [go_sem]) | (refine awp_exit ?_; simp only [go_sem]) | (refine awp_ret ?_; try simp only [go_sem]) | (refine awp_condP rfl ?_; try simp only [go_sem]) | (refine BrP.mk (fun h => ?_) (fun h => ?_) <;> try simp (dsimp := false) (disch := omega) only [wrap64]) | (refine Br.mk (fun h => ?_) (fun h => ?_) <;> try simp (dsimp := false) (disch := omega) only [wrap64]) | refine Ob.mk (by first | omega | (intro _ _; rfl) | trivial | (intros; trivial) | assumption | (intro i hi; have h0 : i = 0 := (by omega); subst h0; first | rfl | trivial) | (intro i hi; have h0 : i = 0 ∨ i = 1 := (by omega); rcases h0 with rfl | rfl <;> rfl) | (intro i hi; have h0 : i = 0 ∨ i = 1 ∨ i = 2 := (by omega); rcases h0 with rfl | rfl | rfl <;> rfl)) ?_ | ((first | ((first | refine atF (f := 37) ?_ | refine atQ (f := 37) ?_); (first | refine cV (hfit := .cons (.refl _) .nil) (hac := hnm.h) (hK := ?_) | refine cQV (hfit := .cons (.refl _) .nil) (hac := hnm.h) (hK := ?_))) | ((first | refine atF (f := 38) ?_ | refine atQ (f := 38) ?_); (first | refine cV (hfit := .cons (.refl _) (.cons (.refl _) .nil)) (hac := hvl.h) (hK := ?_) | refine cQV (hfit := .cons (.refl _) (.cons (.refl _) .nil)) (hac := hvl.h) (hK := ?_)))); simp (maxSteps := 1000000) (dsimp := false) (implicitDefEqProofs := false) (disch := omega) only [wrap64, go_sem]) | apply_assumption -exfalso -symm)
      all_goals (first | (show endQ _ _ _ _ _ _ _; (repeat (rename (∀ (A : Fr) (H : Hp), AWP _ _ _ _ A H → _) => hK; clear hK)); (repeat (rename (Fr → Hp → Prop) => K; clear K))) | (show Exists _; (repeat (rename (∀ (A : Fr) (H : Hp), AWP _ _ _ _ A H → _) => hK; clear hK)); (repeat (rename (Fr → Hp → Prop) => K; clear K))) | skip)
      all_goals first | exact end_retV rfl rfl
  · rw [decide_eq_false h1] at hnm
    rw [fwP_no (fun h => h1 h.1)]
    have hnm := Hold.mk hnm
    clear h1 hvl
    refine ac_of_awp (N := ⟨_, fun _ => false, fun _ _ => rfl, true⟩) Tryd.func10 rfl (by kernel_rfl) Tryd.ntmps10 (by simp) ?_
    simp only [argsFr, List.zipIdx_cons, List.zipIdx_nil, go_sem]
    repeat' (first | refine awp_seqK fun K hK => ?_ | (refine awp_regionK 36099167437719479 rfl ?_; simp only [List.map_cons, List.map_nil]; simp (maxSteps := 1000000) (dsimp := false) (implicitDefEqProofs := false) (disch := omega) only [wrap64, go_sem]) | (refine awp_regionQK 36099167437719479 (by kernel_rfl) (by kernel_rfl) (by kernel_rfl) ?_; simp only [List.map_cons, List.map_nil]; simp (maxSteps := 1000000) (dsimp := false) (implicitDefEqProofs := false) (disch := omega) only [wrap64, go_sem]) | refine awp_block ?_ | (refine awp_skip ?_; simp only [go_sem]) | (refine awp_exit ?_; simp only [go_sem]) | (refine awp_ret ?_; try simp only [go_sem]) | (refine awp_condP rfl ?_; try simp only [go_sem]) | (refine BrP.mk (fun h => ?_) (fun h => ?_) <;> try simp (dsimp := false) (disch := omega) only [wrap64]) | (refine Br.mk (fun h => ?_) (fun h => ?_) <;> try simp (dsimp := false) (disch := omega) only [wrap64]) | refine Ob.mk (by first | omega | (intro _ _; rfl) | trivial | (intros; trivial) | assumption | (intro i hi; have h0 : i = 0 := (by omega); subst h0; first | rfl | trivial) | (intro i hi; have h0 : i = 0 ∨ i = 1 := (by omega); rcases h0 with rfl | rfl <;> rfl) | (intro i hi; have h0 : i = 0 ∨ i = 1 ∨ i = 2 := (by omega); rcases h0 with rfl | rfl | rfl <;> rfl)) ?_ | ((first | ((first | refine atF (f := 37) ?_ | refine atQ (f := 37) ?_); (first | refine cV (hfit := .cons (.refl _) .nil) (hac := hnm.h) (hK := ?_) | refine cQV (hfit := .cons (.refl _) .nil) (hac := hnm.h) (hK := ?_)))); simp (maxSteps := 1000000) (dsimp := false) (implicitDefEqProofs := false) (disch := omega) only [wrap64, go_sem]) | apply_assumption -exfalso -symm)
    all_goals (first | (show endQ _ _ _ _ _ _ _; (repeat (rename (∀ (A : Fr) (H : Hp), AWP _ _ _ _ A H → _) => hK; clear hK)); (repeat (rename (Fr → Hp → Prop) => K; clear K))) | (show Exists _; (repeat (rename (∀ (A : Fr) (H : Hp), AWP _ _ _ _ A H → _) => hK; clear hK)); (repeat (rename (Fr → Hp → Prop) => K; clear K))) | skip)
    all_goals first | exact end_retV rfl rfl
end Go.Proofs.YticbabpajligbaaDoor
end
/- FormatWord, by the reference. -/
section
namespace Go.Proofs.YticbabpajligbaaDoor
open Go.Av
set_option linter.unusedSimpArgs false
set_option linter.unusedVariables false
attribute [local irreducible] AWP CallG Ob Br BrP Go.Av.Sub endQ AOps OpV AC thenA blkA opsVC opVC withA withArgs opsQ opQ CallQ withA2 withArgs2
open Go.Nt (jn jnS)
open Go.Wd (tks RL Tk)
theorem tk_len {w : List Int} : ∀ (ts : List (Int × Nat)) (a : Nat), Tk w a ts → a + ts.length ≤ w.length
  | [], a, h => by rw [show a = w.length from h]; exact Nat.le_refl _
  | (x, n) :: ts, a, ⟨h1, h2, h3, h4, h5⟩ => by
    have := tk_len ts _ h5
    rw [List.length_cons]; omega
theorem jnS_small {ws : List ByteArray} (h : ∀ j, (ws.getD j ByteArray.empty).size ≤ 12) : ∀ k, (jnS ⟨#[32]⟩ ws k).size ≤ 13 * k
  | 0 => Nat.zero_le _
  | k + 1 => by
    have h1 := jnS_small h k
    have h2 := h k
    have h3 : (⟨#[32]⟩ : ByteArray).size = 1 := rfl
    unfold jnS
    rw [ByteArray.size_append]
    split <;> (try rw [ByteArray.size_append]) <;> omega
end Go.Proofs.YticbabpajligbaaDoor
end
/- What is read is small. -/
section
namespace Go.Proofs.YticbabpajligbaaDoor
open Go.Av
set_option linter.unusedSimpArgs false
set_option linter.unusedVariables false
attribute [local irreducible] AWP CallG Ob Br BrP Go.Av.Sub endQ AOps OpV AC thenA blkA opsVC opVC withA withArgs opsQ opQ CallQ withA2 withArgs2
open Go.Nt (Nd nd0 kd li liF dig pInv pSuf pItem pSeq Pr Goes nmOk pItem_goes pSeq_goes)
/-- No node has many children. -/
def kB (l : List Nd) : Prop := ∀ x ∈ l, x.kids.length ≤ 2000
theorem kB_snoc {l : List Nd} {y : Nd} (h : kB l) (hy : y.kids.length ≤ 2000) : kB (l ++ [y]) := fun x hx => by
  rcases List.mem_append.1 hx with h1 | h1
  · exact h x h1
  · rw [List.mem_singleton] at h1; subst h1; exact hy
theorem kB_kd {l : List Nd} (h : kB l) (j : Nat) : (kd l j).length ≤ 2000 := by
  unfold kd
  by_cases hj : j < l.length
  · rw [List.getD_eq_getElem?_getD, List.getElem?_eq_getElem hj]; exact h _ (List.getElem_mem hj)
  · rw [List.getD_eq_getElem?_getD, List.getElem?_eq_none (by omega)]; exact Nat.zero_le _
def SKB (names s : ByteArray) (f : Nat) : Prop := ∀ p l ks0 q l' ks, p ≤ s.size → 2 * (s.size - p) + 2 ≤ f → pSeq names s f p l ks0 = .ok q l' ks → kB l → kB l'
theorem un_kb {names s : ByteArray} (hn : nmOk names) (hs : s.size ≤ 400) {f : Nat} (hS : SKB names s f) {p q : Nat} {l l' : List Nd} {x : Nd} (hp : p ≤ s.size) (hf : 2 * (s.size - p) ≤ f) (e : pUn names s f p l = .ok q l' x) (hl : kB l) : kB l' ∧ x.kids.length ≤ 2000 := by
  have hb := (bt_in s p).1
  unfold pUn at e
  split at e
  · cases e
    exact ⟨hl, Nat.zero_le _⟩
  · split at e
    · rename_i h40
      cases e1 : pSeq names s f (p + 1) l [] with
      | out => rw [e1] at e; cases e
      | bad w => rw [e1] at e; cases e
      | ok q1 l1 a =>
        rw [e1] at e
        dsimp only at e
        have h1 := sq_g hn (by omega) (by omega) e1
        have h2 := sq_ks0 hn (by omega) (by omega) e1
        have h3 := hS _ _ _ _ _ _ (by omega) (by omega) e1 hl
        split at e
        · cases e; exact ⟨h3, by dsimp only; omega⟩
        · cases e
    · split at e
      · rename_i h91
        unfold pBu at e
        cases e1 : pSeq names s f (p + 1) l [] with
        | out => rw [e1] at e; cases e
        | bad w => rw [e1] at e; cases e
        | ok q1 l1 a =>
          rw [e1] at e
          dsimp only at e
          have h1 := sq_g hn (by omega) (by omega) e1
          have h2 := sq_ks0 hn (by omega) (by omega) e1
          have h3 := hS _ _ _ _ _ _ (by omega) (by omega) e1 hl
          have hb := (bt_in s q1).1
          split at e
          · rename_i h58
            cases e2 : pSeq names s f (q1 + 1) l1 [] with
            | out => rw [e2] at e; cases e
            | bad w => rw [e2] at e; cases e
            | ok q2 l2 b =>
              rw [e2] at e
              dsimp only at e
              have h4 := sq_g hn (by omega) (by omega) e2
              have h5 := sq_ks0 hn (by omega) (by omega) e2
              have h6 := hS _ _ _ _ _ _ (by omega) (by omega) e2 h3
              split at e
              · cases e
                exact ⟨h6, by simp only [List.length_append]; omega⟩
              · cases e
          · cases e
      · cases e
theorem it_kb {names s : ByteArray} (hn : nmOk names) (hs : s.size ≤ 400) {f : Nat} (hS : SKB names s f) {p q : Nat} {l l' : List Nd} {u : Unit} (hp : p ≤ s.size) (hf : 2 * (s.size - p) ≤ f) (e : pItem names s (f + 1) p l = .ok q l' u) (hl : kB l) : kB l' := by
  rw [pIt_un] at e
  cases e1 : pUn names s f p l with
  | out => rw [e1] at e; cases e
  | bad w => rw [e1] at e; cases e
  | ok q1 l1 x =>
    rw [e1] at e
    dsimp only at e
    have h1 := un_kb hn hs hS hp hf e1 hl
    have h2 := un_g hn hp hf e1
    rcases Go.Nt.pSuf_ok (s := s) (p := q1) (l := l1) (x := x) (by omega) with ⟨w, a, _⟩ | ⟨q3, y, a, _, _, hy⟩
    · rw [a] at e; cases e
    · rw [a] at e; cases e
      exact kB_snoc h1.1 (by rw [hy]; exact h1.2)
theorem sq_kb {names s : ByteArray} (hn : nmOk names) (hs : s.size ≤ 400) : ∀ f, SKB names s f := by
  intro f
  induction f using Nat.strongRecOn with
  | _ f ih =>
    intro p l ks0 q l' ks hp hf e hl
    obtain ⟨g, rfl⟩ : ∃ g, f = g + 2 := ⟨f - 2, by omega⟩
    rw [pSeq_succ] at e
    cases e1 : pItem names s (g + 1) p l with
    | out => rw [e1] at e; cases e
    | bad w => rw [e1] at e; cases e
    | ok q1 l1 u =>
      rw [e1] at e
      dsimp only at e
      have h1 := it_kb hn hs (ih g (by omega)) hp (by omega) e1 hl
      have h2 := it_g hn hp (by omega) e1
      have hb := (bt_in s q1).1
      split at e
      · exact ih (g + 1) (by omega) _ _ _ _ _ _ (by omega) (by omega) e h1
      · cases e; exact h1
theorem parP_small (names s : ByteArray) : (parP names s).1.length ≤ 1048576 ∧ kB (parP names s).1 := by
  have k0 : kB [] := fun x hx => by cases hx
  unfold parP
  split
  · exact ⟨Nat.zero_le _, k0⟩
  · rename_i hc
    have hN : nmP names := Classical.byContradiction fun h => hc (.inl h)
    have h4 : s.size ≤ 400 := Nat.le_of_not_lt fun h => hc (.inr h)
    split
    · exact ⟨by simp only [List.length_singleton]; omega, kB_snoc k0 (Nat.zero_le _)⟩
    · cases e : pSeq names s (2 * s.size + 2) 0 [] [] with
      | out => exact ⟨Nat.zero_le _, k0⟩
      | bad w => exact ⟨Nat.zero_le _, k0⟩
      | ok q l ks =>
        dsimp only
        have h1 := sq_g (nm_ok hN) (by omega) (by omega) e
        have h2 := sq_ks0 (nm_ok hN) (by omega) (by omega) e
        have h3 := sq_kb (nm_ok hN) h4 _ _ _ _ _ _ _ (by omega) (by omega) e k0
        split
        · exact ⟨Nat.zero_le _, k0⟩
        · split
          · exact ⟨Nat.zero_le _, k0⟩
          · exact ⟨by rw [List.length_append, List.length_singleton]; omega, kB_snoc h3 (by dsimp only; simp only [List.length_nil] at h1 h2; omega)⟩
/-- A call that hands back a row of nodes beside a number. -/
theorem callPp {P : Program} {N : Cx} {A : Fr} {H : Hp} {f : FuncId} {args : List AV} {xs : List Nd} {c : Int} {K : AV → Fr → Hp → Prop} (_hfree : H 1000000 = none) (hac : AC P f args Hp.emp (fun _ => false) (postP xs c)) (hx : xs.length ≤ 1048576) (hpn : N.pn = fun _ => false)
    (hK : K (.tup 2 (vecF [.own 1000000 0 6 xs.length, .v (.int .i64 (c))])) (A.scrub pM) ((NR xs xs.length xs.length).add (H.scrub pM))) : CallG P N f args A H K := by
  refine callHp hac hpn ?_
  rintro r H' ⟨rfl, rfl⟩
  have hl : ∀ i, i < xs.length → liveB (NR xs xs.length xs.length) (sub 1000000 i) = true := fun i hi => by simp [liveB, NR_sub hi hx]
  refine ⟨fun h hn => NR_high hn, ?_, NR_scrub (fun i hi => by simp [hl i hi]), hK⟩
  rw [scrub_tup, scF_vecF]
  simp only [List.map_cons, List.map_nil, scrub_v, scrub_own, liveB, NR_self, Option.isSome_some, Bool.not_true, Bool.false_eq_true, if_false]
end Go.Proofs.YticbabpajligbaaDoor
end
/- The expansion of syntax trees; plain. -/
section
namespace Go.Nt
set_option linter.unusedVariables false
set_option linter.unusedSimpArgs false
open Go.Wd (inv)
/-- What a node says, count and inverse aside; a, b: its children's words. -/
def bas (x : Nd) (a b : List Int) : List Int := (if x.kind = 1 then [x.move + 1] else []) ++ a ++ b ++ (if x.kind = 3 ∨ x.kind = 4 then inv a else []) ++ (if x.kind = 3 then inv b else [])
/-- So often. -/
def repW (w : List Int) (k : Nat) : List Int := (List.replicate k w).flatten
/-- What a node says; none if it is too long. -/
def ndW (x : Nd) (ws : List (List Int)) : Option (List Int) :=
  if 200 < (bas x (ws.take x.split.toNat).flatten (ws.drop x.split.toNat).flatten).length * x.count.toNat then none
  else some (if x.inv = 1 then inv (repW (bas x (ws.take x.split.toNat).flatten (ws.drop x.split.toNat).flatten) x.count.toNat) else repW (bas x (ws.take x.split.toNat).flatten (ws.drop x.split.toNat).flatten) x.count.toNat)
def kidsO (r : Nat → Option (List Int)) : List Int → Option (List (List Int))
  | [] => some []
  | c :: cs => match r c.toNat with
    | none => none
    | some w => match kidsO r cs with
      | none => none
      | some ws => some (w :: ws)
def exF (xs : List Nd) : Nat → Nat → Option (List Int)
  | 0, _ => none
  | f + 1, i => match kidsO (exF xs f) (kd xs i) with
    | none => none
    | some ws => ndW (xs.getD i nd0) ws
/-- The expansion of a node. -/
def ex (xs : List Nd) (i : Nat) : Option (List Int) := exF xs (i + 1) i
theorem kidsO_congr {r r' : Nat → Option (List Int)} : ∀ (cs : List Int), (∀ c ∈ cs, r c.toNat = r' c.toNat) → kidsO r cs = kidsO r' cs
  | [], _ => rfl
  | c :: cs, h => by
    unfold kidsO
    rw [h c (List.mem_cons_self ..), kidsO_congr cs fun x hx => h x (List.mem_cons_of_mem _ hx)]
/-- Children stand before. -/
def kidsB (xs : List Nd) (i : Nat) : Prop := ∀ c ∈ kd xs i, 0 ≤ c ∧ c < i
theorem exF_eq {xs : List Nd} {n : Nat} (hk : ∀ i, i < n → kidsB xs i) : ∀ (i f : Nat), i < n → i < f → exF xs f i = ex xs i := by
  intro i
  induction i using Nat.strongRecOn with
  | _ i ih =>
    intro f hn hf
    obtain ⟨g, rfl⟩ : ∃ g, f = g + 1 := ⟨f - 1, by omega⟩
    have e : kidsO (exF xs g) (kd xs i) = kidsO (exF xs i) (kd xs i) := kidsO_congr _ fun c hc => by
      have := hk i hn c hc
      rw [ih c.toNat (by omega) g (by omega) (by omega), ih c.toNat (by omega) i (by omega) (by omega)]
    show (match kidsO (exF xs g) (kd xs i) with | none => none | some ws => ndW (xs.getD i nd0) ws) = (match kidsO (exF xs i) (kd xs i) with | none => none | some ws => ndW (xs.getD i nd0) ws)
    rw [e]
theorem ex_eq {xs : List Nd} {n : Nat} (hk : ∀ i, i < n → kidsB xs i) {i : Nat} (hi : i < n) : ex xs i = (match kidsO (ex xs) (kd xs i) with | none => none | some ws => ndW (xs.getD i nd0) ws) := by
  have e : kidsO (exF xs i) (kd xs i) = kidsO (ex xs) (kd xs i) := kidsO_congr _ fun c hc => by
    have := hk i hi c hc
    exact exF_eq hk c.toNat i (by omega) (by omega)
  show (match kidsO (exF xs i) (kd xs i) with | none => none | some ws => ndW (xs.getD i nd0) ws) = _
  rw [e]
theorem kidsO_some {r : Nat → Option (List Int)} : ∀ (cs : List Int) (ws : List (List Int)), ws.length = cs.length → (∀ k, k < cs.length → r (cs.getD k 0).toNat = some (ws.getD k [])) → kidsO r cs = some ws
  | [], ws, hl, _ => by
    have : ws = [] := List.eq_nil_of_length_eq_zero hl
    rw [this]; rfl
  | c :: cs, [], hl, _ => by simp at hl
  | c :: cs, w :: ws, hl, h => by
    have h0 := h 0 (by simp)
    have ih := kidsO_some (r := r) cs ws (by simpa using hl) fun k hk => by
      have := h (k + 1) (by simp; omega)
      simpa using this
    unfold kidsO
    have h0' : r c.toNat = some w := by simpa using h0
    rw [h0', ih]
theorem kidsO_none {r : Nat → Option (List Int)} : ∀ (cs : List Int) (k : Nat), k < cs.length → r (cs.getD k 0).toNat = none → kidsO r cs = none
  | [], k, hk, _ => by simp at hk
  | c :: cs, 0, _, h => by
    have h0 : r c.toNat = none := by simpa using h
    unfold kidsO; rw [h0]
  | c :: cs, k + 1, hk, h => by
    have ih := kidsO_none (r := r) cs k (by simpa using hk) (by simpa using h)
    unfold kidsO
    rw [ih]
    cases r c.toNat <;> rfl
/-- All nodes from the first on. -/
def tab (xs : List Nd) : Nat → Option (List (List Int))
  | 0 => some []
  | k + 1 => match tab xs k with
    | none => none
    | some out => match ndW (xs.getD k nd0) ((kd xs k).map fun c => out.getD c.toNat []) with
      | none => none
      | some w => some (out ++ [w])
theorem kidsB_of {xs : List Nd} {n : Nat} (h : sz xs (n - 1) = some n) : ∀ i, i < n → kidsB xs i := fun i hi c hc => by
  obtain ⟨k, hk, e⟩ := List.mem_iff_getElem.1 hc
  have := kid_lt h hi hk
  rw [List.getD_eq_getElem?_getD, List.getElem?_eq_getElem hk, Option.getD_some, e] at this
  exact this
theorem flat_len {L : Nat} : ∀ (ws : List (List Int)), (∀ w ∈ ws, w.length ≤ L) → ws.flatten.length ≤ L * ws.length
  | [], _ => by simp
  | w :: ws, h => by
    have h1 := h w (List.mem_cons_self ..)
    have h2 := flat_len ws fun x hx => h x (List.mem_cons_of_mem _ hx)
    simp only [List.flatten_cons, List.length_append, List.length_cons]
    rw [Nat.mul_succ]; omega
theorem ex_none {xs : List Nd} {n : Nat} (hk : ∀ i, i < n → kidsB xs i) {i : Nat} (hi : i < n) {k : Nat} (hkk : k < (kd xs i).length) (h : ex xs ((kd xs i).getD k 0).toNat = none) : ex xs i = none := by
  rw [ex_eq hk hi, kidsO_none _ k hkk h]
theorem ex_some {xs : List Nd} {n : Nat} (hk : ∀ i, i < n → kidsB xs i) {i : Nat} (hi : i < n) {ws : List (List Int)} (hl : ws.length = (kd xs i).length) (h : ∀ k, k < (kd xs i).length → ex xs ((kd xs i).getD k 0).toNat = some (ws.getD k [])) : ex xs i = ndW (xs.getD i nd0) ws := by
  rw [ex_eq hk hi, kidsO_some _ ws hl h]
theorem repW_len (w : List Int) (k : Nat) : (repW w k).length = k * w.length := by simp [repW]
theorem ndW_len {x : Nd} {ws : List (List Int)} {w : List Int} (h : ndW x ws = some w) : w.length ≤ 200 := by
  unfold ndW at h
  split at h
  · cases h
  · rename_i hc
    simp only [Option.some.injEq] at h
    subst h
    split
    · simp only [inv, List.length_reverse, List.length_map]; rw [repW_len, Nat.mul_comm]; omega
    · rw [repW_len, Nat.mul_comm]; omega
theorem bas_len (x : Nd) (a b : List Int) : (bas x a b).length ≤ 1 + 2 * (a.length + b.length) := by
  have i1 : (inv a).length = a.length := by simp [inv]
  have i2 : (inv b).length = b.length := by simp [inv]
  unfold bas
  simp only [List.length_append]
  split <;> split <;> split <;> simp only [i1, i2, List.length_nil, List.length_singleton] <;> omega
def sm (w : List Int) : Prop := ∀ y ∈ w, -8 ≤ y ∧ y ≤ 8
theorem sm_app {a b : List Int} (ha : sm a) (hb : sm b) : sm (a ++ b) := fun y hy => (List.mem_append.1 hy).elim (ha y) (hb y)
theorem sm_inv {a : List Int} (ha : sm a) : sm (inv a) := fun y hy => by
  simp only [inv, List.mem_reverse, List.mem_map] at hy
  obtain ⟨z, hz, rfl⟩ := hy
  have := ha z hz; omega
theorem sm_flat {ws : List (List Int)} (h : ∀ w ∈ ws, sm w) : sm ws.flatten := fun y hy => by
  obtain ⟨w, hw, h2⟩ := List.mem_flatten.1 hy
  exact h w hw y h2
theorem sm_nil : sm [] := fun y hy => by cases hy
theorem sm_bas {x : Nd} {a b : List Int} (hx : x.kind = 1 → 0 ≤ x.move ∧ x.move ≤ 7) (ha : sm a) (hb : sm b) : sm (bas x a b) := by
  unfold bas
  refine sm_app (sm_app (sm_app (sm_app ?_ ha) hb) ?_) ?_
  · split
    · rename_i h; intro y hy; rw [List.mem_singleton.1 hy]; have := hx h; omega
    · exact sm_nil
  · split
    · exact sm_inv ha
    · exact sm_nil
  · split
    · exact sm_inv hb
    · exact sm_nil
theorem sm_repW {w : List Int} (h : sm w) (k : Nat) : sm (repW w k) := sm_flat fun v hv => by rw [List.eq_of_mem_replicate hv]; exact h
theorem kidsO_all {r : Nat → Option (List Int)} : ∀ (cs : List Int) (ws : List (List Int)), kidsO r cs = some ws → ∀ w ∈ ws, ∃ c ∈ cs, r c.toNat = some w
  | [], ws, h, w, hw => by
    simp only [kidsO, Option.some.injEq] at h
    subst h; cases hw
  | c :: cs, ws, h, w, hw => by
    unfold kidsO at h
    cases e : r c.toNat with
    | none => rw [e] at h; cases h
    | some v =>
      rw [e] at h
      cases e2 : kidsO r cs with
      | none => rw [e2] at h; cases h
      | some ws' =>
        rw [e2] at h
        simp only [Option.some.injEq] at h
        subst h
        rcases List.mem_cons.1 hw with rfl | hw
        · exact ⟨c, List.mem_cons_self .., e⟩
        · obtain ⟨c', h1, h2⟩ := kidsO_all cs ws' e2 w hw
          exact ⟨c', List.mem_cons_of_mem _ h1, h2⟩
theorem nd_move {m : Int} {x : Nd} {l : Bool} (h : ndOk m x l) (hk : x.kind = 1) : 0 ≤ x.move ∧ x.move ≤ m - 1 := by
  rcases h.2.2 with ⟨_, h2, _⟩ | ⟨_, h2 | h2 | h2⟩ <;> omega
theorem ex_small {xs : List Nd} (hv : isNt 8 xs) : ∀ i, i < xs.length → ∀ w, ex xs i = some w → sm w := by
  have hk := kidsB_of hv.2.2.2
  intro i
  induction i using Nat.strongRecOn with
  | _ i ih =>
    intro hi w hw
    rw [ex_eq hk hi] at hw
    cases e : kidsO (ex xs) (kd xs i) with
    | none => rw [e] at hw; cases hw
    | some ws =>
      rw [e] at hw
      have hws : ∀ w ∈ ws, sm w := fun v hv => by
        obtain ⟨c, hc, h2⟩ := kidsO_all _ _ e v hv
        have := hk i hi c hc
        exact ih c.toNat (by omega) (by omega) v h2
      have hb : sm (bas (xs.getD i nd0) (ws.take (xs.getD i nd0).split.toNat).flatten (ws.drop (xs.getD i nd0).split.toNat).flatten) := sm_bas (fun h => by have := nd_move (hv.2.2.1 i hi) h; omega) (sm_flat fun v hv => hws v (List.mem_of_mem_take hv)) (sm_flat fun v hv => hws v (List.mem_of_mem_drop hv))
      simp only [ndW] at hw
      split at hw
      · cases hw
      · simp only [Option.some.injEq] at hw
        subst hw
        split
        · exact sm_inv (sm_repW hb _)
        · exact sm_repW hb _
theorem ex_len {xs : List Nd} {i : Nat} {w : List Int} (h : ex xs i = some w) : w.length ≤ 200 := by
  unfold ex exF at h
  split at h
  · cases h
  · exact ndW_len h
end Go.Nt
end
