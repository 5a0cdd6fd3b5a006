import Derived.Test.YticbabpajligbaaDoorM24
import Derived.Test.YticbabpajligbaaDoorM16
import Derived.Test.YticbabpajligbaaDoorM18
import Derived.Test.YticbabpajligbaaDoorM4
/- Runs of letters that a key finds alike: where they lie, and that they are greatest; words made short; plain. -/
section
namespace Go.Wd
set_option linter.unusedVariables false
set_option linter.unusedSimpArgs false
def kf (f : Int → Int) (a b : Int) : Bool := decide (f a = f b)
/-- What runs are. -/
structure Runs (f : Int → Int) (xs : List (List Int)) : Prop where
  ne : ∀ j, j < xs.length → xs.getD j [] ≠ []
  al : ∀ j, j < xs.length → ∀ y ∈ xs.getD j [], f y = f ((xs.getD j []).getD 0 0)
  nx : ∀ j, j + 1 < xs.length → f ((xs.getD j []).getD 0 0) ≠ f ((xs.getD (j + 1) []).getD 0 0)
theorem getD_set {α : Type} {xs : List α} {i j : Nat} {d x : α} (hi : i < xs.length) : (xs.set i x).getD j d = if j = i then x else xs.getD j d := by
  by_cases h : j = i
  · subst h; simp [List.getD_eq_getElem?_getD, hi]
  · rw [if_neg h]; simp [List.getD_eq_getElem?_getD, List.getElem?_set, Ne.symm h]
theorem getD_snoc {α : Type} {xs : List α} {j : Nat} {d x : α} : (xs ++ [x]).getD j d = if j = xs.length then x else xs.getD j d := by
  by_cases h : j = xs.length
  · subst h; simp [List.getD_eq_getElem?_getD]
  · rw [if_neg h]
    by_cases h2 : j < xs.length
    · simp [List.getD_eq_getElem?_getD, List.getElem?_append_left h2]
    · simp [List.getD_eq_getElem?_getD, List.getElem?_eq_none (show (xs ++ [x]).length ≤ j by simp; omega), List.getElem?_eq_none (show xs.length ≤ j by omega)]
theorem hd_app {a b : List Int} (h : a ≠ []) : (a ++ b).getD 0 0 = a.getD 0 0 := by
  cases a with
  | nil => exact absurd rfl h
  | cons x t => rfl
theorem runsK_ok (f : Int → Int) (w : List Int) : ∀ k, Runs f (runsK (kf f) w k) ∧ (0 < k → f (((runsK (kf f) w k).getD ((runsK (kf f) w k).length - 1) []).getD 0 0) = f (w.getD (k - 1) 0))
  | 0 => ⟨⟨fun j h => absurd h (by simp [runsK]), fun j h => absurd h (by simp [runsK]), fun j h => absurd h (by simp [runsK])⟩, fun h => absurd h (by omega)⟩
  | k + 1 => by
    obtain ⟨⟨ih1, ih2, ih3⟩, ih4⟩ := runsK_ok f w k
    obtain ⟨xs, hx⟩ : ∃ xs, xs = runsK (kf f) w k := ⟨_, rfl⟩
    have hp := (runsK_pos (kf f) w k).1
    rw [← hx] at ih1 ih2 ih3 ih4 hp
    unfold runsK
    rw [← hx]
    by_cases hc : 0 < k ∧ kf f (w.getD (k - 1) 0) (w.getD k 0) = true
    · rw [if_pos hc]
      have h0 := hp hc.1
      have h4 := ih4 hc.1
      have hw : f (w.getD (k - 1) 0) = f (w.getD k 0) := by simpa [kf] using hc.2
      have hd : ∀ j, j < xs.length → ((xs.set (xs.length - 1) (xs.getD (xs.length - 1) [] ++ [w.getD k 0])).getD j []).getD 0 0 = (xs.getD j []).getD 0 0 := fun j hj => by
        rw [getD_set (by omega)]
        split
        · rename_i e; rw [e, hd_app (ih1 _ (by omega))]
        · rfl
      refine ⟨⟨fun j hj => ?_, fun j hj y hy => ?_, fun j hj => ?_⟩, fun _ => ?_⟩
      · rw [List.length_set] at hj
        rw [getD_set (by omega)]
        split
        · simp
        · exact ih1 j hj
      · rw [List.length_set] at hj
        rw [hd j hj]
        rw [getD_set (by omega)] at hy
        split at hy
        · rename_i e; subst e
          rcases List.mem_append.1 hy with hy | hy
          · exact ih2 _ hj y hy
          · rw [List.mem_singleton.1 hy, h4, hw]
        · exact ih2 j hj y hy
      · rw [List.length_set] at hj
        rw [hd j (by omega), hd (j + 1) hj]
        exact ih3 j hj
      · rw [List.length_set, hd _ (by omega), h4, hw]; rfl
    · rw [if_neg hc]
      refine ⟨⟨fun j hj => ?_, fun j hj y hy => ?_, fun j hj => ?_⟩, fun _ => ?_⟩
      · rw [List.length_append, List.length_singleton] at hj
        rw [getD_snoc]
        split
        · simp
        · exact ih1 j (by omega)
      · rw [List.length_append, List.length_singleton] at hj
        rw [getD_snoc] at hy ⊢
        split at hy
        · rename_i e; rw [if_pos e, List.mem_singleton.1 hy]; rfl
        · rename_i e; rw [if_neg e]; exact ih2 j (by omega) y hy
      · rw [List.length_append, List.length_singleton] at hj
        rw [getD_snoc, if_neg (by omega), getD_snoc]
        split
        · rename_i e
          have hk : 0 < k := by
            rcases Nat.eq_zero_or_pos k with h | h
            · subst h; rw [hx] at e; simp [runsK] at e
            · exact h
          have h4 := ih4 hk
          rw [show xs.length - 1 = j by omega] at h4
          rw [h4]
          intro he
          exact hc ⟨hk, by simpa [kf] using he⟩
        · exact ih3 j (by omega)
      · rw [List.length_append, List.length_singleton, Nat.add_sub_cancel, getD_snoc, if_pos rfl]; rfl
/-- The runs of a word. -/
def runs (f : Int → Int) (w : List Int) : List (List Int) := runsK (kf f) w w.length
theorem runs_ok (f : Int → Int) (w : List Int) : Runs f (runs f w) := (runsK_ok f w _).1
theorem runs_flat (f : Int → Int) (w : List Int) : (runs f w).flatten = w := by
  have := runsK_flat (kf f) w w.length (Nat.le_refl _)
  rwa [List.take_length] at this
/-- Where a run begins. -/
def offs (xs : List (List Int)) (j : Nat) : Nat := (xs.take j).flatten.length
theorem offs_succ {xs : List (List Int)} {j : Nat} (h : j < xs.length) : offs xs (j + 1) = offs xs j + (xs.getD j []).length := by
  unfold offs
  rw [List.take_add_one, List.flatten_append, List.length_append, List.getD_eq_getElem?_getD, List.getElem?_eq_getElem h]
  simp only [Option.toList_some, List.flatten_cons, List.flatten_nil, List.append_nil, Option.getD_some]
theorem offs_all (xs : List (List Int)) : offs xs xs.length = xs.flatten.length := by unfold offs; rw [List.take_length]
theorem flat_split (xs : List (List Int)) {j : Nat} (h : j < xs.length) : xs.flatten = (xs.take j).flatten ++ (xs.getD j [] ++ (xs.drop (j + 1)).flatten) := by
  conv => lhs; rw [← List.take_append_drop j xs]
  rw [List.flatten_append, List.drop_eq_getElem_cons h, List.flatten_cons]
  simp [List.getD_eq_getElem?_getD, h]
theorem flat_get {xs : List (List Int)} {j i : Nat} (h : j < xs.length) (hi : i < (xs.getD j []).length) : xs.flatten.getD (offs xs j + i) 0 = (xs.getD j []).getD i 0 := by
  rw [flat_split xs h]
  unfold offs
  rw [List.getD_eq_getElem?_getD, List.getElem?_append_right (by omega), Nat.add_sub_cancel_left, List.getElem?_append_left hi, ← List.getD_eq_getElem?_getD]
theorem offs_le {xs : List (List Int)} {j : Nat} (h : j < xs.length) : offs xs j + (xs.getD j []).length ≤ xs.flatten.length := by
  have e := congrArg List.length (flat_split xs h)
  simp only [List.length_append] at e
  unfold offs; omega
/-- Behind a run the word ends, or a letter of another key follows. -/
theorem run_end {f : Int → Int} {w : List Int} {j : Nat} (h : j < (runs f w).length) :
    (∀ i, i < ((runs f w).getD j []).length → offs (runs f w) j + i < w.length ∧ w.getD (offs (runs f w) j + i) 0 = ((runs f w).getD j []).getD i 0 ∧ f (w.getD (offs (runs f w) j + i) 0) = f (w.getD (offs (runs f w) j) 0)) ∧
    (offs (runs f w) (j + 1) < w.length → f (w.getD (offs (runs f w) (j + 1)) 0) ≠ f (w.getD (offs (runs f w) j) 0)) ∧ 0 < ((runs f w).getD j []).length := by
  have hr := runs_ok f w
  have hf := runs_flat f w
  have hne : ∀ k, k < (runs f w).length → 0 < ((runs f w).getD k []).length := fun k hk => by
    have := hr.ne k hk
    cases e : (runs f w).getD k [] with
    | nil => exact absurd e this
    | cons a t => simp
  have h0 : ∀ k, k < (runs f w).length → w.getD (offs (runs f w) k) 0 = ((runs f w).getD k []).getD 0 0 := fun k hk => by
    have := flat_get (i := 0) hk (hne k hk)
    rwa [hf, Nat.add_zero] at this
  refine ⟨fun i hi => ?_, fun hl => ?_, hne j h⟩
  · have h1 := flat_get h hi
    have h2 := offs_le h
    rw [hf] at h1 h2
    refine ⟨by omega, h1, ?_⟩
    rw [h1, h0 j h]
    refine hr.al j h _ ?_
    rw [List.getD_eq_getElem?_getD (l := (runs f w).getD j []), List.getElem?_eq_getElem hi]
    exact List.getElem_mem hi
  · rcases Nat.lt_or_ge (j + 1) (runs f w).length with h1 | h1
    · rw [h0 _ h1, h0 j h]
      exact (hr.nx j h1).symm
    · have e : j + 1 = (runs f w).length := by omega
      rw [e, offs_all, hf] at hl
      omega
/-- The remainder that is least, the positive one of two. -/
def sres (k d : Int) : Int := if 2 * (k % d) > d then k % d - d else k % d
/-- So many letters of a move, or of its inverse. -/
def lets (m n : Int) : List Int := if 0 ≤ n then List.replicate n.toNat m else List.replicate (-n).toNat (-m)
def sgn (l : Int) : Int := if l < 0 then -1 else 1
def sumS (r : List Int) : Int := (r.map sgn).sum
def absI (l : Int) : Int := (l.natAbs : Int)
/-- A run made short; od: the order of a move. -/
def shortR (od : Int → Int) (r : List Int) : List Int := lets (absI (r.getD 0 0)) (sres (sumS r) (od (absI (r.getD 0 0))))
def shortK (od : Int → Int) (w : List Int) (k : Nat) : List Int := (((runs absI w).take k).map (shortR od)).flatten
def short (od : Int → Int) (w : List Int) : List Int := ((runs absI w).map (shortR od)).flatten
end Go.Wd
end
/- The cycles of a permutation, and its order; plain. -/
section
namespace Go.Pm
set_option linter.unusedVariables false
set_option linter.unusedSimpArgs false
/-- Where a point is behind k steps. -/
def itr (p : List Int) (i : Nat) : Nat → Nat
  | 0 => i
  | k + 1 => img p (itr p i k)
/-- How long the cycle of a point is. -/
def clen (p : List Int) (i : Nat) : Nat := (List.range p.length).findIdx (fun k => decide (itr p i (k + 1) = i)) + 1
/-- The cycle of a point, the point first. -/
def cyc (p : List Int) (i : Nat) : List Int := (List.range (clen p i)).map fun k => ((itr p i k : Nat) : Int)
/-- The point is the least of its cycle. -/
def isMn (p : List Int) (i : Nat) : Bool := decide (∀ k, k < clen p i → i ≤ itr p i k)
def cycs (p : List Int) : List (List Int) := ((List.range p.length).filter fun i => isMn p i && decide (1 < clen p i)).map (cyc p)
def lcmL (l : List Nat) : Nat := l.foldl Nat.lcm 1
/-- The order of a permutation. -/
def ord (p : List Int) : Nat := lcmL ((List.range p.length).map (clen p))
section
variable {n : Nat} {p : List Int} {i j : Nat}
end
section
variable {n : Nat} {p : List Int} {i j : Nat}
end
end Go.Pm
end
/- What a walk over the cycles of a permutation has met; plain. -/
section
namespace Go.Pm
set_option linter.unusedVariables false
set_option linter.unusedSimpArgs false
/-- A point is met by the cycles of the points below i. -/
def sn (p : List Int) (i x : Nat) : Bool := decide (∃ j, j < i ∧ ∃ m, m < clen p j ∧ itr p j m = x)
/-- What is met: the cycles of the points below i, and k steps of the next. -/
def snK (p : List Int) (i k : Nat) : List Bool := (List.range p.length).map fun x => sn p i x || decide (∃ m, m < k ∧ itr p i m = x)
/-- So many steps are made from i. -/
def stK (p : List Int) (i : Nat) : Nat := if sn p i i = true then 0 else clen p i
def cycsK (p : List Int) (i : Nat) : List (List Int) := ((List.range i).filter fun i => isMn p i && decide (1 < clen p i)).map (cyc p)
section
variable {n : Nat} {p : List Int} {i : Nat}
end
end Go.Pm
end
/- Words made short: they end, and what they do stays; plain. -/
section
namespace Go.Wd
open Go.Pm (Pm comp invp idn img itr)
set_option linter.unusedVariables false
set_option linter.unusedSimpArgs false
def neg (w : List Int) : Nat := w.countP fun x => decide (x < 0)
theorem sumS_app (a b : List Int) : sumS (a ++ b) = sumS a + sumS b := by simp [sumS, List.sum_append]
section
variable {n : Nat} {q : List Int} {i : Nat}
end
/-- What the letters denote. -/
structure Lts (n : Nat) (L : Int → List Int) (ok : Int → Prop) : Prop where
  pm : ∀ a, ok a → Pm n (L a)
  inv : ∀ a, ok a → L (-a) = invp (L a)
def ev (L : Int → List Int) (P : List Int) (w : List Int) : List Int := w.foldl (fun p l => comp p (L l)) P
section
variable {n : Nat} {L : Int → List Int} {ok : Int → Prop}
end
end Go.Wd
end
/- The puzzles of dice. -/
section
namespace Go.Proofs.YticbabpajligbaaDoor
open Go.Av
set_option linter.unusedSimpArgs false
set_option linter.unusedVariables false
attribute [local irreducible] AWP CallG Ob Br BrP Go.Av.Sub endQ AOps OpV AC thenA blkA opsVC opVC withA withArgs opsQ opQ CallQ withA2 withArgs2
open Go.Pm (Pm comp invp idn img)
end Go.Proofs.YticbabpajligbaaDoor
end
/- Words of dice. -/
section
namespace Go.Proofs.YticbabpajligbaaDoor
open Go.Av
set_option linter.unusedSimpArgs false
set_option linter.unusedVariables false
attribute [local irreducible] AWP CallG Ob Br BrP Go.Av.Sub endQ AOps OpV AC thenA blkA opsVC opVC withA withArgs opsQ opQ CallQ withA2 withArgs2
theorem w9Letter_ok (d : Dc) (m : Nat) (hm : 1 ≤ m ∧ m ≤ 8) : AC Tryd.prog 59 [.ref 1000000 0, .v (.int .i64 ((m : Int)))] (DH .u64 d) pM (postD .u64 fun r => ∃ v : Int, isL m v ∧ r = .v (.int .i64 (v))) := by
  refine ac_of_awp (N := ⟨_, pM, fun h hh => pM_low (Nat.lt_of_lt_of_le hh (by decide)), true⟩) Tryd.func59 rfl (by kernel_rfl) Tryd.ntmps59 (by simp) ?_
  simp only [argsFr, List.zipIdx_cons, List.zipIdx_nil, go_sem]
  unfold DH
  repeat' (first | ((first | refine atF (f := 24) ?_ | refine atQ (f := 24) ?_); (refine callD (by rfl) (dBelow_ok _ _ (by omega)) (by rintro _ ⟨v, _, rfl⟩ _; rfl) (fun r d' hq => ?_); obtain ⟨v, hv, rfl⟩ := hq) <;> simp (maxSteps := 1000000) (dsimp := false) (implicitDefEqProofs := false) (disch := omega) only [wrap64, go_sem]) | refine awp_seqK fun K hK => ?_ | (refine awp_regionK 4147 rfl ?_; simp only [List.map_cons, List.map_nil]; simp (maxSteps := 1000000) (dsimp := false) (implicitDefEqProofs := false) (disch := omega) only [wrap64, go_sem]) | (refine awp_regionQK 4147 (by kernel_rfl) (by kernel_rfl) (by kernel_rfl) ?_; simp only [List.map_cons, List.map_nil]; simp (maxSteps := 1000000) (dsimp := false) (implicitDefEqProofs := false) (disch := omega) only [wrap64, go_sem]) | refine awp_block ?_ | (refine awp_skip ?_; simp only [go_sem]) | (refine awp_exit ?_; simp only [go_sem]) | (refine awp_ret ?_; try simp only [go_sem]) | (refine awp_condP rfl ?_; try simp only [go_sem]) | (refine BrP.mk (fun h => ?_) (fun h => ?_) <;> try simp (dsimp := false) (disch := omega) only [wrap64]) | (refine Br.mk (fun h => ?_) (fun h => ?_) <;> try simp (dsimp := false) (disch := omega) only [wrap64]) | refine Ob.mk (by first | omega | (intro _ _; rfl) | trivial | (intros; trivial) | assumption | (intro i hi; have h0 : i = 0 := (by omega); subst h0; first | rfl | trivial) | (intro i hi; have h0 : i = 0 ∨ i = 1 := (by omega); rcases h0 with rfl | rfl <;> rfl) | (intro i hi; have h0 : i = 0 ∨ i = 1 ∨ i = 2 := (by omega); rcases h0 with rfl | rfl | rfl <;> rfl)) ?_ | apply_assumption -exfalso -symm)
  all_goals (first | (show endQ _ _ _ _ _ _ _; (repeat (rename (∀ (A : Fr) (H : Hp), AWP _ _ _ _ A H → _) => hK; clear hK)); (repeat (rename (Fr → Hp → Prop) => K; clear K))) | (show Exists _; (repeat (rename (∀ (A : Fr) (H : Hp), AWP _ _ _ _ A H → _) => hK; clear hK)); (repeat (rename (Fr → Hp → Prop) => K; clear K))) | skip)
  all_goals exact end_post rfl rfl (Hp.le_refl _) ⟨d', ⟨_, by unfold isL; omega, rfl⟩, rfl⟩
theorem w9Word_ok (d : Dc) (m : Nat) (most : Int) (hm : 1 ≤ m ∧ m ≤ 8) (hmo : 0 ≤ most ∧ most ≤ 190) : AC Tryd.prog 25 [.ref 1000000 0, .v (.int .i64 ((m : Int))), .v (.int .i64 (most))] (DH .u64 d) pM (postD .u64 fun r => ∃ w : List Int, (isW (m : Int) w ∧ (w.length : Int) ≤ most) ∧ r = ints w) := by
  refine ac_of_awp (N := ⟨_, pM, fun h hh => pM_low (Nat.lt_of_lt_of_le hh (by decide)), true⟩) Tryd.func25 rfl (by kernel_rfl) Tryd.ntmps25 (by simp) ?_
  simp only [argsFr, List.zipIdx_cons, List.zipIdx_nil, go_sem]
  unfold DH
  repeat' (first | ((first | refine atF (f := 24) ?_ | refine atQ (f := 24) ?_); (refine callD (by rfl) (dBelow_ok _ _ (by omega)) (by rintro _ ⟨v, _, rfl⟩ _; rfl) (fun r d' hq => ?_); obtain ⟨v, hv, rfl⟩ := hq) <;> simp (maxSteps := 1000000) (dsimp := false) (implicitDefEqProofs := false) (disch := omega) only [wrap64, go_sem]) | refine awp_seqK fun K hK => ?_ | (refine awp_regionK 33223 rfl ?_; simp only [List.map_cons, List.map_nil]; simp (maxSteps := 1000000) (dsimp := false) (implicitDefEqProofs := false) (disch := omega) only [wrap64, go_sem]) | (refine awp_regionQK 33223 (by kernel_rfl) (by kernel_rfl) (by kernel_rfl) ?_; simp only [List.map_cons, List.map_nil]; simp (maxSteps := 1000000) (dsimp := false) (implicitDefEqProofs := false) (disch := omega) only [wrap64, go_sem]) | refine awp_block ?_ | (refine awp_skip ?_; simp only [go_sem]) | (refine awp_exit ?_; simp only [go_sem]) | (refine awp_ret ?_; try simp only [go_sem]) | (refine awp_condP rfl ?_; try simp only [go_sem]) | (refine BrP.mk (fun h => ?_) (fun h => ?_) <;> try simp (dsimp := false) (disch := omega) only [wrap64]) | (refine Br.mk (fun h => ?_) (fun h => ?_) <;> try simp (dsimp := false) (disch := omega) only [wrap64]) | refine Ob.mk (by first | omega | (intro _ _; rfl) | trivial | (intros; trivial) | assumption | (intro i hi; have h0 : i = 0 := (by omega); subst h0; first | rfl | trivial) | (intro i hi; have h0 : i = 0 ∨ i = 1 := (by omega); rcases h0 with rfl | rfl <;> rfl) | (intro i hi; have h0 : i = 0 ∨ i = 1 ∨ i = 2 := (by omega); rcases h0 with rfl | rfl | rfl <;> rfl)) ?_ | apply_assumption -exfalso -symm)
  all_goals (first | (show endQ _ _ _ _ _ _ _; (repeat (rename (∀ (A : Fr) (H : Hp), AWP _ _ _ _ A H → _) => hK; clear hK)); (repeat (rename (Fr → Hp → Prop) => K; clear K))) | (show Exists _; (repeat (rename (∀ (A : Fr) (H : Hp), AWP _ _ _ _ A H → _) => hK; clear hK)); (repeat (rename (Fr → Hp → Prop) => K; clear K))) | skip)
  obtain ⟨n, rfl⟩ := Int.eq_ofNat_of_zero_le hv.1
  refine awp_loop (ι := Nat × List Int × Dc) (fun k => [(8, .v (.int .i64 ((k.1 : Nat)))), (7, .own 9 0 1 k.2.1.length), (0, .ref 1000000 0), (1, .v (.int .i64 ((m : Int))))]) (fun k => (Hp.emp.upd 1000000 (.cells 3 (dF .u64 k.2.2))).upd 9 (.cells k.2.1.length (cM iv 0 k.2.1))) (fun k => k.1 + k.2.1.length ≤ n ∧ ∀ x ∈ k.2.1, isL (m : Int) x) (fun k => k.1) (n, [], d') ⟨by simp, by simp⟩ (Sub.toL (by simp only [go_sem] <;> first | trivial | (simp only [Option.some.injEq, AV.v.injEq, AV.own.injEq, AV.list.injEq, Value.int.injEq, Value.bool.injEq, true_and, and_true]; first | omega | (simp; done)) | (simp; done) | (simp; omega)) (by (repeat' (first | exact Hp.le_emp _ | exact Hp.le_refl _ | refine Hp.le_upd ?_ ?_)); all_goals (first | rfl | (simp only [go_sem]; first | rfl | (refine cellsE ?_ ?_ <;> (simp)) | (simp))))) ?_
  rintro ⟨k, w, d1⟩ ⟨hk, hw⟩
  dsimp only at hk hw ⊢
  repeat' (first | ((first | refine atF (f := 59) ?_ | refine atQ (f := 59) ?_); (refine callD (by rfl) (w9Letter_ok _ _ hm) (by rintro _ ⟨v, _, rfl⟩ _; rfl) (fun r d2 hq => ?_); obtain ⟨v, hv2, rfl⟩ := hq) <;> simp (maxSteps := 1000000) (dsimp := false) (implicitDefEqProofs := false) (disch := omega) only [wrap64, go_sem]) | refine awp_seqK fun K hK => ?_ | (refine awp_regionK 33223 rfl ?_; simp only [List.map_cons, List.map_nil]; simp (maxSteps := 1000000) (dsimp := false) (implicitDefEqProofs := false) (disch := omega) only [wrap64, go_sem]) | (refine awp_regionQK 33223 (by kernel_rfl) (by kernel_rfl) (by kernel_rfl) ?_; simp only [List.map_cons, List.map_nil]; simp (maxSteps := 1000000) (dsimp := false) (implicitDefEqProofs := false) (disch := omega) only [wrap64, go_sem]) | refine awp_block ?_ | (refine awp_skip ?_; simp only [go_sem]) | (refine awp_exit ?_; simp only [go_sem]) | (refine awp_ret ?_; try simp only [go_sem]) | (refine awp_condP rfl ?_; try simp only [go_sem]) | (refine BrP.mk (fun h => ?_) (fun h => ?_) <;> try simp (dsimp := false) (disch := omega) only [wrap64]) | (refine Br.mk (fun h => ?_) (fun h => ?_) <;> try simp (dsimp := false) (disch := omega) only [wrap64]) | refine Ob.mk (by first | omega | (intro _ _; rfl) | trivial | (intros; trivial) | assumption | (intro i hi; have h0 : i = 0 := (by omega); subst h0; first | rfl | trivial) | (intro i hi; have h0 : i = 0 ∨ i = 1 := (by omega); rcases h0 with rfl | rfl <;> rfl) | (intro i hi; have h0 : i = 0 ∨ i = 1 ∨ i = 2 := (by omega); rcases h0 with rfl | rfl | rfl <;> rfl)) ?_ | apply_assumption -exfalso -symm)
  all_goals (first | (show endQ _ _ _ _ _ _ _; (repeat (rename (∀ (A : Fr) (H : Hp), AWP _ _ _ _ A H → _) => hK; clear hK)); (repeat (rename (Fr → Hp → Prop) => K; clear K))) | (show Exists _; (repeat (rename (∀ (A : Fr) (H : Hp), AWP _ _ _ _ A H → _) => hK; clear hK)); (repeat (rename (Fr → Hp → Prop) => K; clear K))) | skip)
  · refine ⟨(k - 1, w ++ [v], d2), ⟨by simp; omega, fun x hx => ?_⟩, by omega, Sub.toL (by simp only [go_sem] <;> first | trivial | (simp only [Option.some.injEq, AV.v.injEq, AV.own.injEq, AV.list.injEq, Value.int.injEq, Value.bool.injEq, true_and, and_true]; first | omega | (simp; done)) | (simp; done) | (simp; omega)) (by (repeat' (first | exact Hp.le_emp _ | exact Hp.le_refl _ | refine Hp.le_upd ?_ ?_)); all_goals (first | rfl | (simp only [go_sem]; first | rfl | (refine cellsE ?_ ?_ <;> (simp)) | (simp))))⟩
    rcases List.mem_append.1 hx with h1 | h1
    · exact hw x h1
    · rw [List.mem_singleton.1 h1]; exact hv2
  · refine end_postS (H' := DH .u64 d1) rfl (Sub.toFF (fun x => x = 9) (Fr.fit_cons rfl (fits_I rfl rfl rfl rfl) (Fr.fit_nil _)) (leF_upd rfl (.refl _ _ _) leF_emp (by omega))) ⟨d1, ⟨w, ⟨⟨by omega, fun j hj => hw _ ?_⟩, by omega⟩, rfl⟩, rfl⟩
    rw [List.getD_eq_getElem?_getD, List.getElem?_eq_getElem hj]; exact List.getElem_mem hj
end Go.Proofs.YticbabpajligbaaDoor
end
