import Derived.Test.YticbabpajligbaaDoorK24
import Derived.Test.YticbabpajligbaaDoorK1
import Derived.RangeFuncNested
import Derived.Test.YticbabpajligbaaDoorK18
import Derived.Test.YticbabpajligbaaDoorK4
/- Runs of letters that a key finds alike: where they lie, and that they are greatest; words made short; plain. -/
section
namespace Go.Wd
set_option linter.unusedVariables false
set_option linter.unusedSimpArgs false
def kf (f : Int → Int) (a b : Int) : Bool := decide (f a = f b)
/-- What runs are. -/
structure Runs (f : Int → Int) (xs : List (List Int)) : Prop where
  ne : ∀ j, j < xs.length → xs.getD j [] ≠ []
  al : ∀ j, j < xs.length → ∀ y ∈ xs.getD j [], f y = f ((xs.getD j []).getD 0 0)
  nx : ∀ j, j + 1 < xs.length → f ((xs.getD j []).getD 0 0) ≠ f ((xs.getD (j + 1) []).getD 0 0)
theorem getD_set {α : Type} {xs : List α} {i j : Nat} {d x : α} (hi : i < xs.length) : (xs.set i x).getD j d = if j = i then x else xs.getD j d := by
  by_cases h : j = i
  · subst h; simp [List.getD_eq_getElem?_getD, hi]
  · rw [if_neg h]; simp [List.getD_eq_getElem?_getD, List.getElem?_set, Ne.symm h]
theorem getD_snoc {α : Type} {xs : List α} {j : Nat} {d x : α} : (xs ++ [x]).getD j d = if j = xs.length then x else xs.getD j d := by
  by_cases h : j = xs.length
  · subst h; simp [List.getD_eq_getElem?_getD]
  · rw [if_neg h]
    by_cases h2 : j < xs.length
    · simp [List.getD_eq_getElem?_getD, List.getElem?_append_left h2]
    · simp [List.getD_eq_getElem?_getD, List.getElem?_eq_none (show (xs ++ [x]).length ≤ j by simp; omega), List.getElem?_eq_none (show xs.length ≤ j by omega)]
theorem hd_app {a b : List Int} (h : a ≠ []) : (a ++ b).getD 0 0 = a.getD 0 0 := by
  cases a with
  | nil => exact absurd rfl h
  | cons x t => rfl
theorem runsK_ok (f : Int → Int) (w : List Int) : ∀ k, Runs f (runsK (kf f) w k) ∧ (0 < k → f (((runsK (kf f) w k).getD ((runsK (kf f) w k).length - 1) []).getD 0 0) = f (w.getD (k - 1) 0))
  | 0 => ⟨⟨fun j h => absurd h (by simp [runsK]), fun j h => absurd h (by simp [runsK]), fun j h => absurd h (by simp [runsK])⟩, fun h => absurd h (by omega)⟩
  | k + 1 => by
    obtain ⟨⟨ih1, ih2, ih3⟩, ih4⟩ := runsK_ok f w k
    obtain ⟨xs, hx⟩ : ∃ xs, xs = runsK (kf f) w k := ⟨_, rfl⟩
    have hp := (runsK_pos (kf f) w k).1
    rw [← hx] at ih1 ih2 ih3 ih4 hp
    unfold runsK
    rw [← hx]
    by_cases hc : 0 < k ∧ kf f (w.getD (k - 1) 0) (w.getD k 0) = true
    · rw [if_pos hc]
      have h0 := hp hc.1
      have h4 := ih4 hc.1
      have hw : f (w.getD (k - 1) 0) = f (w.getD k 0) := by simpa [kf] using hc.2
      have hd : ∀ j, j < xs.length → ((xs.set (xs.length - 1) (xs.getD (xs.length - 1) [] ++ [w.getD k 0])).getD j []).getD 0 0 = (xs.getD j []).getD 0 0 := fun j hj => by
        rw [getD_set (by omega)]
        split
        · rename_i e; rw [e, hd_app (ih1 _ (by omega))]
        · rfl
      refine ⟨⟨fun j hj => ?_, fun j hj y hy => ?_, fun j hj => ?_⟩, fun _ => ?_⟩
      · rw [List.length_set] at hj
        rw [getD_set (by omega)]
        split
        · simp
        · exact ih1 j hj
      · rw [List.length_set] at hj
        rw [hd j hj]
        rw [getD_set (by omega)] at hy
        split at hy
        · rename_i e; subst e
          rcases List.mem_append.1 hy with hy | hy
          · exact ih2 _ hj y hy
          · rw [List.mem_singleton.1 hy, h4, hw]
        · exact ih2 j hj y hy
      · rw [List.length_set] at hj
        rw [hd j (by omega), hd (j + 1) hj]
        exact ih3 j hj
      · rw [List.length_set, hd _ (by omega), h4, hw]; rfl
    · rw [if_neg hc]
      refine ⟨⟨fun j hj => ?_, fun j hj y hy => ?_, fun j hj => ?_⟩, fun _ => ?_⟩
      · rw [List.length_append, List.length_singleton] at hj
        rw [getD_snoc]
        split
        · simp
        · exact ih1 j (by omega)
      · rw [List.length_append, List.length_singleton] at hj
        rw [getD_snoc] at hy ⊢
        split at hy
        · rename_i e; rw [if_pos e, List.mem_singleton.1 hy]; rfl
        · rename_i e; rw [if_neg e]; exact ih2 j (by omega) y hy
      · rw [List.length_append, List.length_singleton] at hj
        rw [getD_snoc, if_neg (by omega), getD_snoc]
        split
        · rename_i e
          have hk : 0 < k := by
            rcases Nat.eq_zero_or_pos k with h | h
            · subst h; rw [hx] at e; simp [runsK] at e
            · exact h
          have h4 := ih4 hk
          rw [show xs.length - 1 = j by omega] at h4
          rw [h4]
          intro he
          exact hc ⟨hk, by simpa [kf] using he⟩
        · exact ih3 j (by omega)
      · rw [List.length_append, List.length_singleton, Nat.add_sub_cancel, getD_snoc, if_pos rfl]; rfl
/-- The runs of a word. -/
def runs (f : Int → Int) (w : List Int) : List (List Int) := runsK (kf f) w w.length
theorem runs_ok (f : Int → Int) (w : List Int) : Runs f (runs f w) := (runsK_ok f w _).1
theorem runs_flat (f : Int → Int) (w : List Int) : (runs f w).flatten = w := by
  have := runsK_flat (kf f) w w.length (Nat.le_refl _)
  rwa [List.take_length] at this
/-- Where a run begins. -/
def offs (xs : List (List Int)) (j : Nat) : Nat := (xs.take j).flatten.length
theorem offs_succ {xs : List (List Int)} {j : Nat} (h : j < xs.length) : offs xs (j + 1) = offs xs j + (xs.getD j []).length := by
  unfold offs
  rw [List.take_add_one, List.flatten_append, List.length_append, List.getD_eq_getElem?_getD, List.getElem?_eq_getElem h]
  simp only [Option.toList_some, List.flatten_cons, List.flatten_nil, List.append_nil, Option.getD_some]
theorem offs_all (xs : List (List Int)) : offs xs xs.length = xs.flatten.length := by unfold offs; rw [List.take_length]
theorem flat_split (xs : List (List Int)) {j : Nat} (h : j < xs.length) : xs.flatten = (xs.take j).flatten ++ (xs.getD j [] ++ (xs.drop (j + 1)).flatten) := by
  conv => lhs; rw [← List.take_append_drop j xs]
  rw [List.flatten_append, List.drop_eq_getElem_cons h, List.flatten_cons]
  simp [List.getD_eq_getElem?_getD, h]
theorem flat_get {xs : List (List Int)} {j i : Nat} (h : j < xs.length) (hi : i < (xs.getD j []).length) : xs.flatten.getD (offs xs j + i) 0 = (xs.getD j []).getD i 0 := by
  rw [flat_split xs h]
  unfold offs
  rw [List.getD_eq_getElem?_getD, List.getElem?_append_right (by omega), Nat.add_sub_cancel_left, List.getElem?_append_left hi, ← List.getD_eq_getElem?_getD]
theorem offs_le {xs : List (List Int)} {j : Nat} (h : j < xs.length) : offs xs j + (xs.getD j []).length ≤ xs.flatten.length := by
  have e := congrArg List.length (flat_split xs h)
  simp only [List.length_append] at e
  unfold offs; omega
/-- Behind a run the word ends, or a letter of another key follows. -/
theorem run_end {f : Int → Int} {w : List Int} {j : Nat} (h : j < (runs f w).length) :
    (∀ i, i < ((runs f w).getD j []).length → offs (runs f w) j + i < w.length ∧ w.getD (offs (runs f w) j + i) 0 = ((runs f w).getD j []).getD i 0 ∧ f (w.getD (offs (runs f w) j + i) 0) = f (w.getD (offs (runs f w) j) 0)) ∧
    (offs (runs f w) (j + 1) < w.length → f (w.getD (offs (runs f w) (j + 1)) 0) ≠ f (w.getD (offs (runs f w) j) 0)) ∧ 0 < ((runs f w).getD j []).length := by
  have hr := runs_ok f w
  have hf := runs_flat f w
  have hne : ∀ k, k < (runs f w).length → 0 < ((runs f w).getD k []).length := fun k hk => by
    have := hr.ne k hk
    cases e : (runs f w).getD k [] with
    | nil => exact absurd e this
    | cons a t => simp
  have h0 : ∀ k, k < (runs f w).length → w.getD (offs (runs f w) k) 0 = ((runs f w).getD k []).getD 0 0 := fun k hk => by
    have := flat_get (i := 0) hk (hne k hk)
    rwa [hf, Nat.add_zero] at this
  refine ⟨fun i hi => ?_, fun hl => ?_, hne j h⟩
  · have h1 := flat_get h hi
    have h2 := offs_le h
    rw [hf] at h1 h2
    refine ⟨by omega, h1, ?_⟩
    rw [h1, h0 j h]
    refine hr.al j h _ ?_
    rw [List.getD_eq_getElem?_getD (l := (runs f w).getD j []), List.getElem?_eq_getElem hi]
    exact List.getElem_mem hi
  · rcases Nat.lt_or_ge (j + 1) (runs f w).length with h1 | h1
    · rw [h0 _ h1, h0 j h]
      exact (hr.nx j h1).symm
    · have e : j + 1 = (runs f w).length := by omega
      rw [e, offs_all, hf] at hl
      omega
theorem offs_mono {f : Int → Int} {w : List Int} {j : Nat} (h : j < (runs f w).length) : offs (runs f w) j < w.length := by
  obtain ⟨h1, _, h3⟩ := run_end h
  have := (h1 0 h3).1
  omega
/-- The remainder that is least, the positive one of two. -/
def sres (k d : Int) : Int := if 2 * (k % d) > d then k % d - d else k % d
/-- So many letters of a move, or of its inverse. -/
def lets (m n : Int) : List Int := if 0 ≤ n then List.replicate n.toNat m else List.replicate (-n).toNat (-m)
theorem lets_len (m n : Int) : (lets m n).length = n.natAbs := by
  unfold lets; split <;> simp <;> omega
def sgn (l : Int) : Int := if l < 0 then -1 else 1
def sumS (r : List Int) : Int := (r.map sgn).sum
def absI (l : Int) : Int := (l.natAbs : Int)
/-- A run made short; od: the order of a move. -/
def shortR (od : Int → Int) (r : List Int) : List Int := lets (absI (r.getD 0 0)) (sres (sumS r) (od (absI (r.getD 0 0))))
def shortK (od : Int → Int) (w : List Int) (k : Nat) : List Int := (((runs absI w).take k).map (shortR od)).flatten
def short (od : Int → Int) (w : List Int) : List Int := ((runs absI w).map (shortR od)).flatten
theorem shortK_all (od : Int → Int) (w : List Int) : shortK od w (runs absI w).length = short od w := by unfold shortK short; rw [List.take_length]
theorem shortK_succ (od : Int → Int) (w : List Int) {k : Nat} (h : k < (runs absI w).length) : shortK od w (k + 1) = shortK od w k ++ shortR od ((runs absI w).getD k []) := by
  unfold shortK
  rw [List.take_add_one, List.map_append, List.flatten_append, List.getD_eq_getElem?_getD, List.getElem?_eq_getElem h]
  simp only [Option.toList_some, List.map_cons, List.map_nil, List.flatten_cons, List.flatten_nil, List.append_nil, Option.getD_some]
theorem sres_ok {k d : Int} (hd : 0 < d) : (sres k d).natAbs ≤ k.natAbs ∧ -d < 2 * sres k d ∧ 2 * sres k d ≤ d ∧ ∃ q, sres k d = k + d * q := by
  have h1 := Int.emod_nonneg k (by omega : d ≠ 0)
  have h2 := Int.emod_lt_of_pos k hd
  have h3 := Int.mul_ediv_add_emod k d
  have key : ∀ r, (r = k % d ∨ r = k % d - d) → -d < 2 * r → 2 * r ≤ d → r.natAbs ≤ k.natAbs := by
    intro r hr a b
    obtain ⟨q, hq⟩ : ∃ q, k = r + d * q := by
      rcases hr with e | e
      · exact ⟨k / d, by rw [e]; omega⟩
      · refine ⟨k / d + 1, ?_⟩
        rw [e, Int.mul_add, Int.mul_one]; omega
    rcases Int.lt_trichotomy q 0 with hq0 | hq0 | hq0
    · have : d * q ≤ d * (-1) := Int.mul_le_mul_of_nonneg_left (by omega) (by omega)
      omega
    · subst hq0; simp at hq; omega
    · have : d * 1 ≤ d * q := Int.mul_le_mul_of_nonneg_left (by omega) (by omega)
      omega
  unfold sres
  split
  · rename_i h
    refine ⟨key _ (.inr rfl) (by omega) (by omega), by omega, by omega, -(k / d) - 1, ?_⟩
    rw [Int.mul_sub, Int.mul_neg, Int.mul_one]; omega
  · refine ⟨key _ (.inl rfl) (by omega) (by omega), by omega, by omega, -(k / d), ?_⟩
    rw [Int.mul_neg]; omega
theorem sumS_abs : ∀ r, (sumS r).natAbs ≤ r.length
  | [] => by simp [sumS]
  | l :: r => by
    have ih := sumS_abs r
    have e : sumS (l :: r) = sgn l + sumS r := by simp [sumS]
    have h1 : sgn l = -1 ∨ sgn l = 1 := by unfold sgn; split <;> simp
    rw [e, List.length_cons]
    omega
theorem shortR_len {od : Int → Int} {r : List Int} (hd : 0 < od (absI (r.getD 0 0))) : (shortR od r).length ≤ r.length := by
  unfold shortR
  rw [lets_len]
  have h1 := (sres_ok (k := sumS r) hd).1
  have h2 := sumS_abs r
  omega
end Go.Wd
end
/- Words made short: they end, and what they do stays; plain. -/
section
namespace Go.Wd
open Go.Pm (Pm comp invp idn img itr)
set_option linter.unusedVariables false
set_option linter.unusedSimpArgs false
def neg (w : List Int) : Nat := w.countP fun x => decide (x < 0)
theorem neg_le (w : List Int) : neg w ≤ w.length := List.countP_le_length
theorem neg_app (a b : List Int) : neg (a ++ b) = neg a + neg b := List.countP_append
theorem sumS_app (a b : List Int) : sumS (a ++ b) = sumS a + sumS b := by simp [sumS, List.sum_append]
theorem sumS_lets {m : Int} (hm : 0 < m) (n : Int) : sumS (lets m n) = n := by
  have rep : ∀ (k : Nat) (x : Int), sumS (List.replicate k x) = k * sgn x := by
    intro k x
    induction k with
    | zero => simp [sumS]
    | succ k ih =>
      rw [List.replicate_succ, show sumS (x :: List.replicate k x) = sgn x + sumS (List.replicate k x) by simp [sumS], ih]
      rw [show ((k + 1 : Nat) : Int) = (k : Int) + 1 by omega, Int.add_mul, Int.one_mul, Int.add_comm]
  unfold lets
  split
  · rw [rep, show sgn m = 1 from if_neg (by omega)]; omega
  · rw [rep, show sgn (-m) = -1 from if_pos (by omega)]; omega
/-- The letters of a run: one move. -/
def isRun (a : Int) (r : List Int) : Prop := ∀ x ∈ r, x = a ∨ x = -a
theorem all_same {a : Int} (ha : 0 < a) : ∀ {r : List Int}, isRun a r → (sumS r = r.length → r = List.replicate r.length a) ∧ (sumS r = -r.length → r = List.replicate r.length (-a))
  | [], h => ⟨fun _ => rfl, fun _ => rfl⟩
  | x :: r, h => by
    obtain ⟨i1, i2⟩ := all_same ha (r := r) fun y hy => h y (by simp [hy])
    have hs := sumS_abs r
    have e : sumS (x :: r) = sgn x + sumS r := by simp [sumS]
    have hx := h x (by simp)
    rw [e, List.length_cons, List.replicate_succ, List.replicate_succ]
    constructor
    · intro h1
      rcases hx with rfl | rfl
      · rw [← i1 (by rw [show sgn x = 1 from if_neg (by omega)] at h1; omega)]
      · rw [show sgn (-a) = -1 from if_pos (by omega)] at h1; omega
    · intro h1
      rcases hx with rfl | rfl
      · rw [show sgn x = 1 from if_neg (by omega)] at h1; omega
      · rw [← i2 (by rw [show sgn (-a) = -1 from if_pos (by omega)] at h1; omega)]
theorem neg_lets {a : Int} (ha : 0 < a) (n : Int) : neg (lets a n) = if 0 ≤ n then 0 else n.natAbs := by
  unfold lets neg
  split
  · rw [List.countP_replicate]; simp; omega
  · rw [List.countP_replicate, if_pos (by simp; omega)]; omega
/-- A run that does not get shorter stays, or has fewer inverse letters. -/
theorem shortR_same {od : Int → Int} {a : Int} (ha : 0 < a) (hd : 0 < od a) {r : List Int} (hr : isRun a r) (h0 : absI (r.getD 0 0) = a) (hne : r ≠ []) :
    (shortR od r).length ≤ r.length ∧ ((shortR od r).length = r.length → shortR od r = r ∨ neg (shortR od r) < neg r) := by
  have hL : 0 < r.length := by cases r with
    | nil => exact absurd rfl hne
    | cons => simp
  unfold shortR
  rw [h0, lets_len]
  obtain ⟨s1, s2, s3, q, s4⟩ := sres_ok (k := sumS r) hd
  have h2 := sumS_abs r
  refine ⟨by omega, fun e => ?_⟩
  have hsum : sumS r = r.length ∨ sumS r = -(r.length : Int) := by omega
  obtain ⟨n, hn⟩ : ∃ n, n = sres (sumS r) (od a) := ⟨_, rfl⟩
  rw [← hn] at s1 s2 s3 s4 e ⊢
  rcases hsum with h3 | h3
  · have hr2 := (all_same ha hr).1 h3
    rcases Int.le_total 0 n with h4 | h4
    · left
      unfold lets
      rw [if_pos h4, show n.toNat = r.length by omega]; exact hr2.symm
    · exfalso
      rw [h3] at s4
      have e2 : od a * q = -2 * r.length := by omega
      rcases Int.lt_trichotomy q 0 with hq | hq | hq
      · have : od a * q ≤ od a * (-1) := Int.mul_le_mul_of_nonneg_left (by omega) (by omega)
        omega
      · subst hq; simp at e2; omega
      · have : od a * 1 ≤ od a * q := Int.mul_le_mul_of_nonneg_left (by omega) (by omega)
        omega
  · have hr2 := (all_same ha hr).2 h3
    rcases (show n < 0 ∨ 0 ≤ n by omega) with h4 | h4
    · left
      unfold lets
      rw [if_neg (by omega), show (-n).toNat = r.length by omega]; exact hr2.symm
    · right
      rw [neg_lets ha, if_pos h4, hr2]
      unfold neg
      rw [List.countP_replicate, if_pos (by simp; omega)]
      exact hL
theorem flat_same (f : List Int → List Int) : ∀ (xs : List (List Int)), (∀ r ∈ xs, (f r).length ≤ r.length ∧ ((f r).length = r.length → f r = r ∨ neg (f r) < neg r)) →
    (xs.map f).flatten.length ≤ xs.flatten.length ∧ ((xs.map f).flatten.length = xs.flatten.length → (xs.map f).flatten = xs.flatten ∨ neg (xs.map f).flatten < neg xs.flatten) ∧ ((xs.map f).flatten.length = xs.flatten.length → neg (xs.map f).flatten ≤ neg xs.flatten)
  | [], h => ⟨Nat.le_refl _, fun _ => .inl rfl, fun _ => Nat.le_refl _⟩
  | r :: xs, h => by
    obtain ⟨i1, i2, i3⟩ := flat_same f xs fun y hy => h y (by simp [hy])
    obtain ⟨k1, k2⟩ := h r (by simp)
    simp only [List.map_cons, List.flatten_cons, List.length_append, neg_app]
    refine ⟨by omega, fun e => ?_, fun e => ?_⟩
    · rcases k2 (by omega) with a | a
      · rcases i2 (by omega) with b | b
        · left; rw [a, b]
        · right; rw [a]; omega
      · right
        have := i3 (by omega)
        omega
    · have := i3 (by omega)
      rcases k2 (by omega) with a | a
      · rw [a]; omega
      · omega
/-- The letters of valid words. -/
def okW (w : List Int) : Prop := ∀ x ∈ w, x ≠ 0
theorem absI_pos {x : Int} (h : x ≠ 0) : 0 < absI x := by unfold absI; omega
theorem absI_or (x : Int) : x = absI x ∨ x = -absI x := by unfold absI; omega
theorem run_of {w : List Int} (hw : okW w) {r : List Int} (hr : r ∈ runs absI w) : r ≠ [] ∧ 0 < absI (r.getD 0 0) ∧ isRun (absI (r.getD 0 0)) r ∧ ∀ x ∈ r, x ∈ w := by
  obtain ⟨j, hj, rfl⟩ := List.mem_iff_getElem.1 hr
  have ho := runs_ok absI w
  have e : (runs absI w).getD j [] = (runs absI w)[j] := by simp [List.getD_eq_getElem?_getD, hj]
  have h1 := ho.ne j hj
  have h2 := ho.al j hj
  rw [e] at h1 h2
  have hin : ∀ x ∈ (runs absI w)[j], x ∈ w := fun x hx => by
    rw [← runs_flat absI w]
    exact List.mem_flatten.2 ⟨_, List.getElem_mem hj, hx⟩
  have h0 : (runs absI w)[j].getD 0 0 ∈ (runs absI w)[j] := by
    rw [List.getD_eq_getElem?_getD, List.getElem?_eq_getElem (List.length_pos_iff.2 h1)]
    exact List.getElem_mem _
  refine ⟨h1, absI_pos (hw _ (hin _ h0)), fun x hx => ?_, hin⟩
  rw [← h2 x hx]
  exact absI_or x
/-- How far a word is from its end. -/
def mu (w : List Int) : Nat := w.length * 201 + neg w
theorem short_same {od : Int → Int} {w : List Int} (hw : okW w) (hd : ∀ x ∈ w, 0 < od (absI x)) :
    (short od w).length ≤ w.length ∧ (w.length ≤ 200 → short od w ≠ w → mu (short od w) < mu w) := by
  have key := flat_same (shortR od) (runs absI w) fun r hr => by
    obtain ⟨h1, h2, h3, h4⟩ := run_of hw hr
    refine shortR_same h2 ?_ h3 rfl h1
    refine hd _ (h4 _ ?_)
    rw [List.getD_eq_getElem?_getD, List.getElem?_eq_getElem (List.length_pos_iff.2 h1)]
    exact List.getElem_mem _
  rw [runs_flat] at key
  obtain ⟨k1, k2, k3⟩ := key
  refine ⟨k1, fun hl hne => ?_⟩
  unfold mu
  by_cases e : (short od w).length = w.length
  · rcases k2 e with h | h
    · exact absurd h hne
    · have h' : neg (short od w) < neg w := h
      rw [e]; omega
  · have h1 : (short od w).length ≤ w.length := k1
    have h2 := neg_le (short od w)
    omega
theorem mem_lets {m n x : Int} (h : x ∈ lets m n) : x = m ∨ x = -m := by
  unfold lets at h
  split at h
  · exact .inl (List.eq_of_mem_replicate h)
  · exact .inr (List.eq_of_mem_replicate h)
/-- Each letter left is of a move that the word has. -/
theorem mem_short {od : Int → Int} {w : List Int} (hw : okW w) {x : Int} (h : x ∈ short od w) : ∃ y ∈ w, absI x = absI y ∧ x ≠ 0 := by
  unfold short at h
  obtain ⟨l, hl, hx⟩ := List.mem_flatten.1 h
  obtain ⟨r, hr, rfl⟩ := List.mem_map.1 hl
  obtain ⟨h1, h2, h3, h4⟩ := run_of hw hr
  have h0 : r.getD 0 0 ∈ r := by
    rw [List.getD_eq_getElem?_getD, List.getElem?_eq_getElem (List.length_pos_iff.2 h1)]
    exact List.getElem_mem _
  refine ⟨_, h4 _ h0, ?_⟩
  unfold shortR at hx
  have := mem_lets hx
  unfold absI at *
  omega
/-- Where a point is behind so many steps, or steps back. -/
def zit (q : List Int) (i : Nat) (k : Int) : Nat := if 0 ≤ k then itr q i k.toNat else itr (invp q) i (-k).toNat
section
variable {n : Nat} {q : List Int} {i : Nat}
theorem zit_lt (h : Pm n q) (hi : i < n) (k : Int) : zit q i k < n := by
  unfold zit
  split
  · exact Go.Pm.itr_lt h hi _
  · exact Go.Pm.itr_lt h.inv hi _
theorem zit_succ (h : Pm n q) (hi : i < n) (k : Int) : zit q i (k + 1) = img q (zit q i k) := by
  unfold zit
  by_cases h0 : 0 ≤ k
  · rw [if_pos h0, if_pos (by omega), show (k + 1).toNat = k.toNat + 1 by omega]; rfl
  · by_cases h1 : k = -1
    · subst h1
      show i = img q (img (invp q) i)
      rw [h.inv_img hi]
    · rw [if_neg h0, if_neg (by omega), show (-k).toNat = (-(k + 1)).toNat + 1 by omega]
      show _ = img q (img (invp q) (itr (invp q) i _))
      rw [h.inv_img (Go.Pm.itr_lt h.inv hi _)]
theorem zit_pred (h : Pm n q) (hi : i < n) (k : Int) : zit q i (k - 1) = img (invp q) (zit q i k) := by
  have := zit_succ h hi (k - 1)
  rw [Int.sub_add_cancel] at this
  rw [this, h.img_inv (zit_lt h hi _)]
theorem zit_add (h : Pm n q) (hi : i < n) (a b : Int) : zit q i (a + b) = zit q (zit q i a) b := by
  have up : ∀ k : Nat, zit q i (a + k) = zit q (zit q i a) k := by
    intro k
    induction k with
    | zero => rw [show a + ((0 : Nat) : Int) = a by omega]; rfl
    | succ k ih =>
      rw [show a + ((k + 1 : Nat) : Int) = a + k + 1 by omega, zit_succ h hi, ih, show ((k + 1 : Nat) : Int) = (k : Int) + 1 by omega, zit_succ h (zit_lt h hi _)]
  have down : ∀ k : Nat, zit q i (a - k) = zit q (zit q i a) (-k) := by
    intro k
    induction k with
    | zero => rw [show a - ((0 : Nat) : Int) = a by omega]; rfl
    | succ k ih =>
      rw [show a - ((k + 1 : Nat) : Int) = a - k - 1 by omega, zit_pred h hi, ih, show -((k + 1 : Nat) : Int) = -(k : Int) - 1 by omega, zit_pred h (zit_lt h hi _)]
  rcases Int.le_total 0 b with hb | hb
  · have := up b.toNat
    rwa [show ((b.toNat : Nat) : Int) = b by omega] at this
  · have := down (-b).toNat
    rwa [show (((-b).toNat : Nat) : Int) = -b by omega, Int.sub_neg, Int.neg_neg] at this
theorem zit_ord (h : Pm n q) (hi : i < n) (k : Int) : zit q i ((Go.Pm.ord q : Nat) * k) = i := by
  have one : ∀ x, x < n → zit q x (Go.Pm.ord q : Nat) = x := fun x hx => by
    unfold zit
    rw [if_pos (by omega), Int.toNat_natCast]
    exact Go.Pm.itr_ord h hx
  have up : ∀ m : Nat, zit q i ((Go.Pm.ord q : Nat) * (m : Nat) : Int) = i := by
    intro m
    induction m with
    | zero => simp [zit, itr]
    | succ m ih => rw [show ((Go.Pm.ord q : Nat) * ((m + 1 : Nat) : Int) : Int) = (Go.Pm.ord q : Nat) * (m : Nat) + (Go.Pm.ord q : Nat) by rw [show ((m + 1 : Nat) : Int) = (m : Int) + 1 by omega, Int.mul_add, Int.mul_one], zit_add h hi, ih, one i hi]
  rcases Int.le_total 0 k with hk | hk
  · have := up k.toNat
    rwa [show ((k.toNat : Nat) : Int) = k by omega] at this
  · have e := up (-k).toNat
    rw [show (((-k).toNat : Nat) : Int) = -k by omega] at e
    have h2 := zit_add h hi ((Go.Pm.ord q : Nat) * -k) ((Go.Pm.ord q : Nat) * k)
    rw [← Int.mul_add, Int.add_left_neg, Int.mul_zero, e] at h2
    rw [← h2]; rfl
end
/-- What the letters denote. -/
structure Lts (n : Nat) (L : Int → List Int) (ok : Int → Prop) : Prop where
  pm : ∀ a, ok a → Pm n (L a)
  inv : ∀ a, ok a → L (-a) = invp (L a)
def ev (L : Int → List Int) (P : List Int) (w : List Int) : List Int := w.foldl (fun p l => comp p (L l)) P
theorem ev_app (L : Int → List Int) (P a b : List Int) : ev L P (a ++ b) = ev L (ev L P a) b := by unfold ev; rw [List.foldl_append]
section
variable {n : Nat} {L : Int → List Int} {ok : Int → Prop}
theorem ev_run (hL : Lts n L ok) {a : Int} (ha : 0 < a) (hok : ok a) : ∀ (r : List Int), isRun a r → ∀ P, Pm n P → Pm n (ev L P r) ∧ ∀ i, i < n → img (ev L P r) i = zit (L a) (img P i) (sumS r)
  | [], hr, P, hP => ⟨hP, fun i hi => rfl⟩
  | x :: r, hr, P, hP => by
    have hx := hr x (by simp)
    have ha2 := hL.pm a hok
    have hpx : Pm n (L x) ∧ ∀ j, j < n → img (L x) j = zit (L a) j (sgn x) := by
      rcases hx with rfl | rfl
      · refine ⟨ha2, fun j hj => ?_⟩
        rw [show sgn x = 1 from if_neg (by omega)]; rfl
      · rw [hL.inv a hok]
        refine ⟨ha2.inv, fun j hj => ?_⟩
        rw [show sgn (-a) = -1 from if_pos (by omega)]; rfl
    obtain ⟨k1, k2⟩ := ev_run hL ha hok r (fun y hy => hr y (by simp [hy])) (comp P (L x)) (hP.comp hpx.1)
    refine ⟨k1, fun i hi => ?_⟩
    have e : sumS (x :: r) = sgn x + sumS r := by simp [sumS]
    rw [show ev L P (x :: r) = ev L (comp P (L x)) r from rfl, k2 i hi, hP.cimg hi, hpx.2 _ (hP.img_lt hi), e, zit_add ha2 (hP.img_lt hi)]
theorem isRun_lets (a n : Int) : isRun a (lets a n) := fun x hx => mem_lets hx
theorem ev_shortR (hL : Lts n L ok) {od : Int → Int} {r : List Int} (ha : 0 < absI (r.getD 0 0)) (hok : ok (absI (r.getD 0 0))) (hr : isRun (absI (r.getD 0 0)) r) (hod : od (absI (r.getD 0 0)) = (Go.Pm.ord (L (absI (r.getD 0 0))) : Nat)) (hp : 0 < Go.Pm.ord (L (absI (r.getD 0 0)))) {P : List Int} (hP : Pm n P) : ev L P (shortR od r) = ev L P r := by
  unfold shortR
  obtain ⟨a, hae⟩ : ∃ a, a = absI (r.getD 0 0) := ⟨_, rfl⟩
  rw [← hae] at ha hok hr hod hp ⊢
  obtain ⟨s1, s2, s3, q, s4⟩ := sres_ok (k := sumS r) (d := od a) (by omega)
  obtain ⟨k1, k2⟩ := ev_run hL ha hok r hr P hP
  obtain ⟨l1, l2⟩ := ev_run hL ha hok _ (isRun_lets a (sres (sumS r) (od a))) P hP
  refine l1.ext_img k1 fun i hi => ?_
  rw [l2 i hi, k2 i hi, sumS_lets ha, s4, hod, Int.add_comm, zit_add (hL.pm a hok) (hP.img_lt hi), zit_ord (hL.pm a hok) (hP.img_lt hi)]
/-- What a word does stays. -/
theorem ev_short (hL : Lts n L ok) {od : Int → Int} {w : List Int} (hw : okW w) (hok : ∀ x ∈ w, ok (absI x)) (hod : ∀ x ∈ w, od (absI x) = (Go.Pm.ord (L (absI x)) : Nat) ∧ 0 < Go.Pm.ord (L (absI x))) {P : List Int} (hP : Pm n P) : ev L P (short od w) = ev L P w := by
  have key : ∀ xs : List (List Int), (∀ r ∈ xs, r ∈ runs absI w) → ∀ P, Pm n P → ev L P (xs.map (shortR od)).flatten = ev L P xs.flatten := by
    intro xs
    induction xs with
    | nil => intro _ P _; rfl
    | cons r xs ih =>
      intro h P hP
      obtain ⟨h1, h2, h3, h4⟩ := run_of hw (h r (by simp))
      have h0 : r.getD 0 0 ∈ w := h4 _ (by
        rw [List.getD_eq_getElem?_getD, List.getElem?_eq_getElem (List.length_pos_iff.2 h1)]
        exact List.getElem_mem _)
      rw [List.map_cons, List.flatten_cons, List.flatten_cons, ev_app, ev_app, ev_shortR hL h2 (hok _ h0) h3 (hod _ h0).1 (hod _ h0).2 hP]
      exact ih (fun x hx => h x (by simp [hx])) _ (ev_run hL h2 (hok _ h0) r h3 P hP).1
  have := key (runs absI w) (fun _ h => h) P hP
  rwa [runs_flat] at this
end
end Go.Wd
end
/- Words made short until they stay as they are; plain. -/
section
namespace Go.Wd
set_option linter.unusedVariables false
set_option linter.unusedSimpArgs false
def smpF (od : Int → Int) : Nat → List Int → List Int
  | 0, w => w
  | f + 1, w => if short od w = w then w else smpF od f (short od w)
/-- A word made short until it stays. -/
def smp (od : Int → Int) (w : List Int) : List Int := smpF od (mu w + 1) w
/-- Words that may be made short. -/
structure SW (od : Int → Int) (w : List Int) : Prop where
  nz : okW w
  od : ∀ x ∈ w, 0 < od (absI x)
  len : w.length ≤ 200
theorem SW.short {od : Int → Int} {w : List Int} (h : SW od w) : SW od (short od w) ∧ (Go.Wd.short od w ≠ w → mu (Go.Wd.short od w) < mu w) := by
  have h1 := short_same h.nz h.od
  refine ⟨⟨fun x hx => ?_, fun x hx => ?_, by have := h.len; omega⟩, fun hne => h1.2 h.len hne⟩
  · obtain ⟨y, _, _, h2⟩ := mem_short h.nz hx; exact h2
  · obtain ⟨y, hy, e, _⟩ := mem_short h.nz hx
    rw [e]; exact h.od y hy
theorem smpF_enough {od : Int → Int} : ∀ (f g : Nat) (w : List Int), SW od w → mu w < f → mu w < g → smpF od f w = smpF od g w
  | 0, _, _, _, h, _ => absurd h (by omega)
  | _, 0, _, _, _, h => absurd h (by omega)
  | f + 1, g + 1, w, hw, hf, hg => by
    simp only [smpF]
    by_cases e : short od w = w
    · rw [if_pos e, if_pos e]
    · rw [if_neg e, if_neg e]
      have := hw.short.2 e
      exact smpF_enough f g _ hw.short.1 (by omega) (by omega)
theorem smp_stay {od : Int → Int} {w : List Int} (e : short od w = w) : smp od w = w := by simp only [smp, smpF, if_pos e]
theorem smp_step {od : Int → Int} {w : List Int} (h : SW od w) (e : short od w ≠ w) : smp od (short od w) = smp od w := by
  show smpF od _ (short od w) = smpF od _ w
  have e2 : smpF od (mu w + 1) w = smpF od (mu w) (short od w) := by simp only [smpF, if_neg e]
  rw [e2]
  have := h.short.2 e
  exact smpF_enough _ _ _ h.short.1 (by omega) (by omega)
theorem sumS_take {r : List Int} {i : Nat} (h : i < r.length) : sumS (r.take (i + 1)) = sumS (r.take i) + sgn (r.getD i 0) := by
  rw [List.take_succ_eq_append_getElem h, sumS_app]
  simp [sumS, List.getD_eq_getElem?_getD, h]
theorem sumS_bd (r : List Int) (i : Nat) : -(r.length : Int) ≤ sumS (r.take i) ∧ sumS (r.take i) ≤ r.length := by
  have := sumS_abs (r.take i)
  rw [List.length_take] at this
  omega
theorem shortK_len {od : Int → Int} {w : List Int} (hd : ∀ x ∈ w, 0 < od (absI x)) : ∀ k, k ≤ (runs absI w).length → (shortK od w k).length ≤ offs (runs absI w) k
  | 0, _ => by simp [shortK]
  | k + 1, h => by
    have ih := shortK_len hd k (by omega)
    rw [shortK_succ od w (by omega), List.length_append, offs_succ (by omega)]
    obtain ⟨q1, _, q3⟩ := run_end (f := absI) (w := w) (j := k) (by omega)
    obtain ⟨k1, k2, _⟩ := q1 0 q3
    have hm : ((runs absI w).getD k []).getD 0 0 ∈ w := by
      rw [← k2, List.getD_eq_getElem?_getD, List.getElem?_eq_getElem k1]; exact List.getElem_mem _
    have := shortR_len (od := od) (r := (runs absI w).getD k []) (hd _ hm)
    omega
end Go.Wd
end
/- A range over a function whose iterator hands out parts of a row that is only read (slices.Chunk). -/
section
namespace Go.Av
set_option linter.unusedVariables false
/-- How many parts of c cells n cells have. -/
def nch (c n : Nat) : Nat := (n + c - 1) / c
/-- Part k, as a value; and what it is good for. -/
def chV (c b off n : Nat) (k : Nat) : Value := .slice (some ⟨b, off + c * k, none⟩) (min c (n - c * k)) (min c (n - c * k))
def chA (c n : Nat) (f : Nat → AV) (k : Nat) : AV := .list false 1 (min c (n - c * k)) fun i => f (c * k + i)
/-- Two blocks as they were. -/
def Kc (B1 B2 : Nat) (w w' : World) : Prop := w'.heap[B1]? = w.heap[B1]? ∧ w'.heap[B2]? = w.heap[B2]?
/-- What an iterator over parts of c cells must do, its row in the box B1, s1, the number c in the box B2, s2. -/
def ChunkIt (P : Program) (gf : FuncId) (c : Nat) : Prop := ∀ (n B1 s1 B2 s2 b off len cap : Nat) (w : World), 2 ≤ n → w.cell? ⟨B1, s1, none⟩ = some (.slice (some ⟨b, off, none⟩) len cap) → w.cell? ⟨B2, s2, none⟩ = some (.int .i64 c) → 1 ≤ len → len ≤ cap → len ≤ 1048576 →
  SeqStopsK (FF none) n P gf #[.pointer (some ⟨B1, s1, none⟩), .pointer (some ⟨B2, s2, none⟩)] (fun k : Nat => #[chV c b off len k]) (Kc B1 B2) (fun ys => ys = List.range (nch c len)) (fun _ => True) (nch c len) w
theorem wpIn_n {P : Program} {ro : Option Nat} {n m : Nat} {c : Code} {Q : Exit → Act → World → Prop} {a : Act} {w : World} (h : c.wpIn (FF ro) n P Q a w) : c.wpIn (FF ro) m P Q a w :=
  fun b k cs hro hb _ => h b k cs hro hb (fun d hd => by cases hd)
theorem wpList_nil {P : Program} {ops : Array Oper} {Q : Exit → Act → World → Prop} {a : Act} {w : World} (h : Q .normal a w) : wpList P ops Q [] a w := fun _ _ => h
/-- The part that a row's reading gives. -/
theorem rd_chunk {w : World} {ok : Nat → Prop} {L : Loc} {nn : Bool} {n : Nat} {f : Nat → AV} {b off cap : Nat} (c k : Nat) (h : Rd w ok L (.list nn 1 n f) (.slice (some ⟨b, off, none⟩) n cap)) : Rd w ok L (chA c n f k) (chV c b off n k) := by
  obtain ⟨a, cap', hu, h1, h2, h3, h4⟩ := h
  injection hu with e1 e2 e3
  refine ⟨_, _, rfl, Nat.le_refl _, fun h => (by cases h), fun h => (by cases h), fun p hp i hi => ?_⟩
  simp only [Option.some.injEq] at hp
  subst hp
  have hlt : c * k + i < n * 1 := by omega
  obtain ⟨k1, k2, x, k3, k4⟩ := h4 _ e1.symm (c * k + i) hlt
  exact ⟨rfl, k2, x, by rw [show off + c * k + i = off + (c * k + i) by omega]; exact k3, k4⟩
section
variable {P : Program} {N N' : Cx} {A A0 : Fr} {H : Hp} {Q : Exit → Fr → Hp → Prop}
theorem Sim.cut {w0 : World} {S : Rg} {w : World} {tm : Array Value} {L : Loc} {A A' : Fr} {H H' : Hp} {n : Nat} (s : Sim n w0 S w tm L A H) (hA : ∀ i c, A'.get i = some c → A.get i = some c) (hl : Hp.le H' H) : Sim n w0 S w tm L A' H' := by
  have live : ∀ g, H' g ≠ none → H g ≠ none := fun g hn => by
    cases e : H' g with
    | none => exact absurd e hn
    | some B => rw [hl g B e]; simp
  exact ⟨s.keep, s.size, fun i a h => Rd.okm (fun b hb => okb_le hl hb) (s.slot i a (hA i a h)), fun h B hB => by
    have := BlkOk.step (wh := w) (wh' := w) (w := w) (w' := w) (ok := okb S H L) (ok' := okb S H' L) (p := fun _ => false) (fun b _ hb => ⟨okb_le hl hb, rfl⟩) (Shape.refl w) (L := L) (L' := L) (fun _ _ => rfl) (fun _ _ => rfl) (s.blk h B (hl h B hB))
    rwa [Blk.scrub_none] at this, fun h q hn hq => s.own h q (live h hn) hq, fun h g q r hn hm hq hr e => s.inj h g q r (live h hn) (live g hm) hq hr e, s.pin⟩
set_option maxHeartbeats 1000000 in
theorem awp_chunks {g : Operand} {t u : Tmp} {id : Nat} {asg : Oper} {body : Code} {gf : FuncId} {c : Nat} {fc f1 f2 : Nat → AV} {h1 o1 n1 h2 o2 n2 : Nat} {nn : Bool} {len : Nat} {f : Nat → AV} (A0 : Fr) (HH : List Nat → Hp)
    (hit : ChunkIt P gf c) (hcall : callable P gf = true) (hout : N.out = true) (hn : N'.n = N.n) (hin : N'.out = false) (hpn : ∀ h, N.pn h = true → N'.pn h = true)
    (ht : t < N.n) (hu : u < N.n) (hop : asg.op = .assign (.tmp t)) (had : asg.dst = some u) (hag : asg.guard = none)
    (hg : A.ev g = some (.clo gf 2 fc)) (hc0 : fc 0 = .ref h1 o1) (hc1 : fc 1 = .ref h2 o2) (hH1 : H h1 = some (.cells n1 f1)) (ho1 : o1 < n1) (hf1 : f1 o1 = .list nn 1 len f) (hlen : 1 ≤ len ∧ len ≤ 1048576)
    (hH2 : H h2 = some (.cells n2 f2)) (ho2 : o2 < n2) (hf2 : f2 o2 = .v (.int .i64 c))
    (hA0 : ∀ i a, A0.get i = some a → A.get i = some a) (hA0s : ∀ i a, A0.get i = some a → a.scrub (fun h => !N'.pn h) = a) (hH0 : Hp.le (HH []) H) (hb1 : HH [] h1 = none) (hb2 : HH [] h2 = none) (hcl : ∀ pre h kv, HH pre h ≠ some (.mp kv))
    (hbody : ∀ pre k, pre.length < nch c len → AWP P N' body (fun e A H => e = .normal ∧ Sub N' A H [] (HH (pre ++ [k]))) ((u, chA c len f k) :: (t, chA c len f k) :: A0) (HH pre))
    (hdone : Q .normal A0 (HH (List.range (nch c len)))) : AWP P N (.rangeFunc g #[t] (.region id #[asg] false) body) Q A H := by
  intro w0 S hS w a L s ro n hro
  obtain rfl := hro hout
  refine wpIn_n (n := 9) ?_
  obtain ⟨cs, hge, hsz, hcs⟩ := s.ev hg
  obtain ⟨p0, e0, r0⟩ := hcs 0 (by decide)
  obtain ⟨p1, e1, r1⟩ := hcs 1 (by decide)
  rw [hc0] at r0
  rw [hc1] at r1
  obtain ⟨B1, s1, hL1, rfl⟩ := r0
  obtain ⟨B2, s2, hL2, rfl⟩ := r1
  obtain rfl : cs = #[.pointer (some ⟨B1, s1 + o1, none⟩), .pointer (some ⟨B2, s2 + o2, none⟩)] := by
    apply Array.ext_getElem?
    intro i
    match i with
    | 0 => rw [e0]; rfl
    | 1 => rw [e1]; rfl
    | i + 2 => rw [Array.getElem?_eq_none (by omega), Array.getElem?_eq_none (by simp)]
  have k1 := s.blk h1 _ hH1
  have k2 := s.blk h2 _ hH2
  rw [hL1] at k1
  rw [hL2] at k2
  obtain ⟨cs1, t1, ⟨z1, hp1, _⟩, _, q1⟩ := k1
  obtain ⟨cs2, t2, ⟨z2, hp2, _⟩, _, q2⟩ := k2
  obtain ⟨sv, v1, v2⟩ := q1 o1 ho1
  obtain ⟨nv, v3, v4⟩ := q2 o2 ho2
  rw [hf1] at v2
  rw [hf2] at v4
  obtain rfl : nv = .int .i64 c := v4
  have v2' := v2
  obtain ⟨ad, cap, rfl, hcap, _, had0, hrd⟩ := v2
  obtain ⟨⟨b, off, sp⟩, rfl⟩ : ∃ p, ad = some p := by
    cases ad with
    | none => have := (had0 rfl).1; omega
    | some p => exact ⟨p, rfl⟩
  obtain rfl : sp = none := (hrd _ rfl 0 (by omega)).1
  have hB1 : B1 < w.heap.size := (Array.getElem?_eq_some_iff.1 hp1).1
  have hB2 : B2 < w.heap.size := (Array.getElem?_eq_some_iff.1 hp2).1
  have hseq := hit (9 - 1) B1 (s1 + o1) B2 (s2 + o2) b off len cap w (by decide) (by simp [World.cell?, hp1, v1]) (by simp [World.cell?, hp2, v3]) hlen.1 hcap hlen.2
  have hw0 : w0.heap.size ≤ w.heap.size := s.keep.size
  obtain ⟨I, hI⟩ : ∃ I : List Nat → World → Prop, I = fun pre W => ∃ L', Sim N.n w0 S W a.tmps L' A0 (HH pre) ∧ (∀ h, N'.pn h = true → L' h = L h) ∧ Rd W (okb S (HH pre) L') L' (.list nn 1 len f) (.slice (some ⟨b, off, none⟩) len cap) ∧ (∀ h q, HH pre h ≠ none → L' h = some q → q.1 ≠ B1 ∧ q.1 ≠ B2) ∧ w.heap.size ≤ W.heap.size := ⟨_, rfl⟩
  have hI0 : I [] w := by
    rw [hI]
    refine ⟨L, s.cut hA0 hH0, fun _ _ => rfl, Rd.okm (fun b hb => okb_le hH0 hb) v2', fun h q hn hq => ⟨fun e => ?_, fun e => ?_⟩, Nat.le_refl _⟩
    · have hH : H h ≠ none := by
        cases e2 : HH [] h with
        | none => exact absurd e2 hn
        | some B => rw [hH0 h B e2]; simp
      obtain rfl := s.inj h h1 q (B1, s1) hH (by rw [hH1]; simp) hq hL1 e
      exact hn hb1
    · have hH : H h ≠ none := by
        cases e2 : HH [] h with
        | none => exact absurd e2 hn
        | some B => rw [hH0 h B e2]; simp
      obtain rfl := s.inj h h2 q (B2, s2) hH (by rw [hH2]; simp) hq hL2 e
      exact hn hb2
  have hIown : OwnFrom w.heap.size I := by
    rw [hI]
    rintro pre X Y row ⟨L', s', hp, hr, hb, hsz⟩ hgr hrow
    have hnot : ∀ r, row = some r → ∃ o, X.heap[r]? = some o ∧ ∀ cs e fz, o ≠ .cells cs e fz := fun r e => by
      obtain ⟨_, o, h3, h4⟩ := hrow r e
      exact ⟨o, h3, fun cs e fz h => by rw [h] at h4; cases h4⟩
    have hcell : ∀ b, CellB X b → Y.heap[b]? = X.heap[b]? := fun b hb => hgr.block b hb.lt fun e => by
      obtain ⟨o, h3, h4⟩ := hnot b e.symm
      obtain ⟨cs, e, fz, h5⟩ := hb
      rw [h3] at h5
      exact h4 _ _ _ (Option.some.inj h5)
    refine ⟨L', s'.grew hgr fun r e => ⟨Nat.le_trans hw0 (hrow r e).1, hnot r e, fun h kv q hh => absurd hh (hcl pre h kv)⟩, hp, ?_, hb, Nat.le_trans hsz hgr.size⟩
    have := Rd.stepC (p := fun _ => false) (w := X) (w' := Y) (ok := okb S (HH pre) L') (ok' := okb S (HH pre) L') (fun b hb h => ⟨h, hcell b hb⟩) (fun b cs e fz h => ⟨cs, (hcell b ⟨cs, e, fz, h⟩).trans h, rfl⟩) _ L' L' _ (fun _ _ => rfl) hr
    rwa [AV.scrub_none] at this
  refine wpIn_rangeFunc_ownG_of_H (F := FF none) (n := 9) rfl (by decide) hge trivial (fun args w => run_callFunc hcall) hseq (fun h k => ⟨k.1.trans h.1, k.2.trans h.2⟩)
    (fun W l o o' hl _ _ _ => ⟨World.putObj_heap_other (by omega), World.putObj_heap_other (by omega)⟩) (RowKit.Below.refl _ _) (fun _ => rfl) I (fun _ _ _ => False) hIown (fun _ _ _ _ _ h _ _ => h) hI0
    (fun k => { tmps := (a.tmps.setIfInBounds t (chV c b off len k)).setIfInBounds u (chV c b off len k), defers := [] }) ?_ ?_ ?_ (fun _ _ _ _ _ _ h _ => h.elim) (fun _ => ⟨rfl, rfl⟩)
  · intro l k W K hK
    refine wp_region_lit (l := [asg]) (P := P) ?_ (some l) _ (fun h => by cases h)
    refine wpList_plain hag fun K2 hK2 => owp_val (u := chV c b off len k) (w' := W) ?_ (hK2 _ _ (wpList_nil ?_))
    · have hlt : t < a.tmps.size := by rw [s.size]; exact ht
      simp [execOp, hop, Act.eval, hlt]
    · rw [had]; simpa [Exit.then, Act.put, List.zip] using hK
  · intro l pre k W hIp hlt
    rw [hI] at hIp
    obtain ⟨L', s', hp, hr, hb, hsz⟩ := hIp
    have hk := rd_chunk c k hr
    obtain ⟨S', hS'⟩ : ∃ S' : Rg, S' = { S.tight hS s' with pin := fun h => if N'.pn h then some (L' h) else none } := ⟨_, rfl⟩
    have hwr : ∀ b, S'.wr b ↔ (W.heap.size ≤ b ∨ ∃ h q, HH pre h ≠ none ∧ L' h = some q ∧ q.1 = b) := fun b => by rw [hS']; exact Iff.rfl
    have hok : ∀ H L, okb S' H L = okb S H L := fun H L => by rw [hS']; rfl
    have hgood : Good N' W S' := ⟨fun b hb => (hwr b).2 (.inl hb), fun h hh => by rw [hS']; simp [hh]⟩
    have hpin : ∀ h, N'.pn h = true → S'.pin h = some (L' h) := fun h hh => by rw [hS']; simp [hh]
    have st : Sim N'.n W S' W (((a.tmps.setIfInBounds t (chV c b off len k)).setIfInBounds u (chV c b off len k))) L' ((u, chA c len f k) :: (t, chA c len f k) :: A0) (HH pre) := by
      have s0 : Sim N'.n W S' W a.tmps L' A0 (HH pre) := ⟨Keep.refl _ _, by rw [hn]; exact s'.size, fun i a h => by rw [hok]; exact s'.slot i a h, fun h B hB => by rw [hok]; exact s'.blk h B hB, fun h q h1 h2 => (hwr _).2 (.inr ⟨h, q, h1, h2, rfl⟩), s'.inj, fun h l hl => by
        rw [hS'] at hl
        dsimp only at hl
        split at hl
        · exact Option.some.inj hl
        · cases hl⟩
      have s1 := s0.put (d := t) (a := chA c len f k) (u := chV c b off len k) (by rw [hn]; exact ht) (by rw [hok]; exact hk)
      exact s1.put (d := u) (a := chA c len f k) (u := chV c b off len k) (by rw [hn]; exact hu) (by rw [hok]; exact hk)
    have hb0 := hbody pre k hlt W S' hgood W { tmps := (a.tmps.setIfInBounds t (chV c b off len k)).setIfInBounds u (chV c b off len k), defers := [] } L' st
    rw [hin] at hb0
    refine wpIn_mono (hb0 (some l) _ (fun h => by cases h)) ?_
    rintro e a' W' ⟨L2, A2, H2, s2, _, rfl, hsub⟩
    obtain ⟨L3, s3⟩ := hsub W S' hgood W' a'.tmps L2 s2
    have hpin3 : ∀ h, N'.pn h = true → L3 h = L' h := fun h hh => s3.pin h _ (hpin h hh)
    have hsame : ∀ b, b < W.heap.size → (∀ h q, HH pre h ≠ none → L' h = some q → q.1 ≠ b) → W'.heap[b]? = W.heap[b]? := fun b hb hn => s3.keep.blk b hb fun hw => by
      rcases (hwr b).1 hw with h | ⟨h, q, h1, h2, h3⟩
      · omega
      · exact hn h q h1 h2 h3
    have hokk : ∀ b, b < W.heap.size → okb S (HH pre) L' b → okb S (HH (pre ++ [k])) L3 b ∧ W'.heap[b]? = W.heap[b]? := fun b hb h => ⟨⟨h.1, fun g q hn hq e => by
      rcases (hwr _).1 (s3.own g q hn hq) with h4 | ⟨h4, q', h5, h6, h7⟩
      · omega
      · exact h.2 h4 q' h5 h6 (h7.trans e)⟩, hsame b hb h.2⟩
    have hold : ∀ h q, HH (pre ++ [k]) h ≠ none → L3 h = some q → q.1 ≠ B1 ∧ q.1 ≠ B2 := fun h q hn hq => by
      rcases (hwr _).1 (s3.own h q hn hq) with h4 | ⟨h4, q', h5, h6, h7⟩
      · omega
      · rw [← h7]; exact hb h4 q' h5 h6
    refine ⟨⟨s3.keep.size, fun j o hj hjo ho => ?_⟩, ⟨hsame B1 (by omega) fun h q h1 h2 => (hb h q h1 h2).1, hsame B2 (by omega) fun h q h1 h2 => (hb h q h1 h2).2⟩, ?_⟩
    · refine (hsame j (Array.getElem?_eq_some_iff.1 hjo).1 fun h q hn hq e => ?_).trans hjo
      cases hB : HH pre h with
      | none => exact hn hB
      | some B =>
        have hbk := s'.blk h B hB
        rw [hq] at hbk
        cases B with
        | cells m g =>
          obtain ⟨cs, e3, ⟨fz, e4, _⟩, _⟩ := hbk
          rw [e, hjo] at e4
          rw [Option.some.inj e4] at ho
          cases ho
        | mp kv => exact hcl pre h kv hB
    · rw [hI]
      refine ⟨L3, ⟨s'.keep.trans (s3.keep.mono fun b _ hw => ?_), s'.size, fun i x hx => ?_, fun h B hB => by rw [← hok]; exact s3.blk h B hB, fun h q h1 h2 => ?_, s3.inj, fun h l hl => ?_⟩, fun h hh => (hpin3 h hh).trans (hp h hh), ?_, hold, Nat.le_trans hsz s3.keep.size⟩
      · exact tight_wr hS s' ((hwr b).1 hw)
      · have := Rd.step (p := fun h => !N'.pn h) hokk s3.keep.shape x L' L3 _ (fun h hh => hpin3 h (by simpa using hh)) (s'.slot i x hx)
        rwa [hA0s i x hx] at this
      · exact tight_wr hS s' ((hwr _).1 (s3.own h q h1 h2))
      · have hN : N.pn h = true := by
          cases e : N.pn h with
          | true => rfl
          | false => rw [hS.free h e] at hl; cases hl
        exact (hpin3 h (hpn h hN)).trans (s'.pin h l hl)
      · exact Rd.step (p := fun h => !N'.pn h) hokk s3.keep.shape (.list nn 1 len f) L' L3 _ (fun h hh => hpin3 h (by simpa using hh)) hr
  · rintro D xs W hD rfl hIx hDo
    rw [hI] at hIx
    obtain ⟨L', s', _⟩ := hIx
    refine ⟨L', A0, _, s', ⟨[markD D], rfl, fun d hd => ⟨D, Nat.le_trans hw0 hD, List.mem_singleton.1 hd, hDo⟩, by simp⟩, hdone⟩
end
end Go.Av
end
/- Words made short: they stay, they are no longer, they do the same; plain. -/
section
namespace Go.Wd
open Go.Pm (Pm comp invp img)
set_option linter.unusedVariables false
theorem smpF_end {od : Int → Int} : ∀ (f : Nat) (w : List Int), SW od w → mu w < f → short od (smpF od f w) = smpF od f w ∧ SW od (smpF od f w) ∧ (smpF od f w).length ≤ w.length ∧ ∀ x ∈ smpF od f w, ∃ y ∈ w, absI x = absI y ∧ x ≠ 0
  | 0, _, _, h => absurd h (by omega)
  | f + 1, w, hw, hf => by
    simp only [smpF]
    by_cases e : short od w = w
    · rw [if_pos e]; exact ⟨e, hw, Nat.le_refl _, fun x hx => ⟨x, hx, rfl, hw.nz x hx⟩⟩
    · rw [if_neg e]
      have h1 := hw.short
      have h2 := h1.2 e
      obtain ⟨a, b, c, d⟩ := smpF_end f _ h1.1 (by omega)
      have h3 := (short_same hw.nz hw.od).1
      refine ⟨a, b, by omega, fun x hx => ?_⟩
      obtain ⟨y, hy, e1, h0⟩ := d x hx
      obtain ⟨z, hz, e2, _⟩ := mem_short hw.nz hy
      exact ⟨z, hz, e1.trans e2, h0⟩
theorem smp_end {od : Int → Int} {w : List Int} (hw : SW od w) : smp od (smp od w) = smp od w ∧ SW od (smp od w) ∧ (smp od w).length ≤ w.length ∧ ∀ x ∈ smp od w, ∃ y ∈ w, absI x = absI y ∧ x ≠ 0 := by
  obtain ⟨a, b, c, d⟩ := smpF_end (mu w + 1) w hw (by omega)
  exact ⟨smp_stay a, b, c, d⟩
section
variable {n : Nat} {L : Int → List Int} {ok : Int → Prop}
theorem ev_smpF (hL : Lts n L ok) {od : Int → Int} {P : List Int} (hP : Pm n P) : ∀ (f : Nat) (w : List Int), SW od w → (∀ x ∈ w, ok (absI x)) → (∀ x ∈ w, od (absI x) = (Go.Pm.ord (L (absI x)) : Nat) ∧ 0 < Go.Pm.ord (L (absI x))) → ev L P (smpF od f w) = ev L P w
  | 0, _, _, _, _ => rfl
  | f + 1, w, hw, hok, hod => by
    simp only [smpF]
    by_cases e : short od w = w
    · rw [if_pos e]
    · rw [if_neg e]
      rw [ev_smpF hL hP f _ hw.short.1 (fun x hx => ?_) (fun x hx => ?_), ev_short hL hw.nz hok hod hP]
      · obtain ⟨y, hy, e1, _⟩ := mem_short hw.nz hx
        rw [e1]; exact hok y hy
      · obtain ⟨y, hy, e1, _⟩ := mem_short hw.nz hx
        rw [e1]; exact hod y hy
theorem ev_smp (hL : Lts n L ok) {od : Int → Int} {P : List Int} (hP : Pm n P) {w : List Int} (hw : SW od w) (hok : ∀ x ∈ w, ok (absI x)) (hod : ∀ x ∈ w, od (absI x) = (Go.Pm.ord (L (absI x)) : Nat) ∧ 0 < Go.Pm.ord (L (absI x))) : ev L P (smp od w) = ev L P w := ev_smpF hL hP _ w hw hok hod
end
end Go.Wd
end
/- The puzzles of dice. -/
section
namespace Go.Proofs.YticbabpajligbaaDoor
open Go.Av
set_option linter.unusedSimpArgs false
set_option linter.unusedVariables false
attribute [local irreducible] AWP CallG Ob Br BrP Go.Av.Sub endQ AOps OpV AC thenA blkA opsVC opVC withA withArgs opsQ opQ CallQ withA2 withArgs2
open Go.Pm (Pm comp invp idn img)
theorem specIdentI_ok (x : Int) (h1 : 1 ≤ x ∧ x ≤ 20) (d : Nat) : AC Tryd.prog 64 [.v (.int .i64 (x))] Hp.emp (fun _ => false) (retI d (idn x.toNat)) := by
  have e := specIdent_ok x.toNat (by omega) d
  rwa [show ((x.toNat : Nat) : Int) = x by omega] at e
theorem pm_swap {n : Nat} {g : List Int} (hg : Pm n g) {i j : Nat} (hi : i < n) (hj : j < n) : Pm n ((g.set i (g.getD j 0)).set j (g.getD i 0)) := by
  have hl := hg.1
  have e : ∀ k, k < n → ((g.set i (g.getD j 0)).set j (g.getD i 0)).getD k 0 = g.getD (if k = j then i else if k = i then j else k) 0 := fun k hk => by
    by_cases h1 : k = j
    · subst h1; rw [if_pos rfl]; simp [List.getD_eq_getElem?_getD, List.getElem?_set, hl, hk]
    · rw [if_neg h1]
      by_cases h2 : k = i
      · subst h2; rw [if_pos rfl]; simp [List.getD_eq_getElem?_getD, List.getElem?_set, hl, hk, Ne.symm h1]
      · rw [if_neg h2]; simp [List.getD_eq_getElem?_getD, List.getElem?_set, Ne.symm h1, Ne.symm h2]
  have hm : ∀ k, k < n → (if k = j then i else if k = i then j else k) < n := fun k hk => by
    split
    · exact hi
    · split <;> assumption
  refine ⟨by simp [hl], fun k hk => ?_, fun a b ha hb hab => ?_⟩
  · rw [e k hk]
    exact hg.2.1 _ (hm k hk)
  · rw [e a ha, e b hb] at hab
    have h := hg.2.2 _ _ (hm a ha) (hm b hb) hab
    split at h <;> split at h <;> (try split at h) <;> (try split at h) <;> omega
/-- What w9Puzzle answers. -/
def smallP (p : Pz) : Prop := isPz p ∧ 3 ≤ p.n ∧ p.n ≤ 5 ∧ p.m.length = 2
theorem w9Puzzle_ok (d : Dc) : AC Tryd.prog 30 [.ref 1000000 0] (DH .u64 d) pM (postD .u64 fun r => ∃ p, smallP p ∧ r = pz p) := by
  refine ac_of_awp (N := ⟨_, pM, fun h hh => pM_low (Nat.lt_of_lt_of_le hh (by decide)), true⟩) Tryd.func30 rfl (by kernel_rfl) Tryd.ntmps30 (by simp) ?_
  simp only [argsFr, List.zipIdx_cons, List.zipIdx_nil, go_sem]
  unfold DH
  repeat' (first | ((first | refine atF (f := 24) ?_ | refine atQ (f := 24) ?_); (refine callD (by rfl) (dBelow_ok _ _ (by omega)) (by rintro _ ⟨v, _, rfl⟩ _; rfl) (fun r d' hq => ?_); obtain ⟨v, hv, rfl⟩ := hq) <;> simp (maxSteps := 1000000) (dsimp := false) (implicitDefEqProofs := false) (disch := omega) only [wrap64, go_sem, List.getElem?_cons_zero, List.getElem?_cons_succ]) | refine awp_seqK fun K hK => ?_ | (refine awp_regionK 16843261 rfl ?_; simp only [List.map_cons, List.map_nil]; simp (maxSteps := 1000000) (dsimp := false) (implicitDefEqProofs := false) (disch := omega) only [wrap64, go_sem, List.getElem?_cons_zero, List.getElem?_cons_succ]) | (refine awp_regionQK 16843261 (by kernel_rfl) (by kernel_rfl) (by kernel_rfl) ?_; simp only [List.map_cons, List.map_nil]; simp (maxSteps := 1000000) (dsimp := false) (implicitDefEqProofs := false) (disch := omega) only [wrap64, go_sem, List.getElem?_cons_zero, List.getElem?_cons_succ]) | refine awp_block ?_ | (refine awp_skip ?_; simp only [go_sem, List.getElem?_cons_zero, List.getElem?_cons_succ]) | (refine awp_exit ?_; simp only [go_sem, List.getElem?_cons_zero, List.getElem?_cons_succ]) | (refine awp_ret ?_; try simp only [go_sem, List.getElem?_cons_zero, List.getElem?_cons_succ]) | (refine awp_condP rfl ?_; try simp only [go_sem, List.getElem?_cons_zero, List.getElem?_cons_succ]) | (refine BrP.mk (fun h => ?_) (fun h => ?_) <;> try simp (dsimp := false) (disch := omega) only [wrap64]) | (refine Br.mk (fun h => ?_) (fun h => ?_) <;> try simp (dsimp := false) (disch := omega) only [wrap64]) | refine Ob.mk (by first | omega | (intro _ _; rfl) | trivial | (intros; trivial) | assumption | (intro i hi; have h0 : i = 0 := (by omega); subst h0; first | rfl | trivial) | (intro i hi; have h0 : i = 0 ∨ i = 1 := (by omega); rcases h0 with rfl | rfl <;> rfl) | (intro i hi; have h0 : i = 0 ∨ i = 1 ∨ i = 2 := (by omega); rcases h0 with rfl | rfl | rfl <;> rfl)) ?_ | apply_assumption -exfalso -symm)
  all_goals (first | (show endQ _ _ _ _ _ _ _; (repeat (rename (∀ (A : Fr) (H : Hp), AWP _ _ _ _ A H → _) => hK; clear hK)); (repeat (rename (Fr → Hp → Prop) => K; clear K))) | (show Exists _; (repeat (rename (∀ (A : Fr) (H : Hp), AWP _ _ _ _ A H → _) => hK; clear hK)); (repeat (rename (Fr → Hp → Prop) => K; clear K))) | skip)
  obtain ⟨n, hn⟩ : ∃ n : Nat, (n : Int) = 3 + v := ⟨(3 + v).toNat, by omega⟩
  have hn5 : 3 ≤ n ∧ n ≤ 5 := by omega
  rw [← hn]
  refine awp_loop (ι := List (List Int) × Dc) (fun k => [(0, .ref 1000000 0), (2, .ref 2 0), (3, .ref 3 0)]) (fun k => (((Hp.emp.upd 1000000 (.cells 3 (dF .u64 k.2))).upd 2 (.cells 3 (zF [Value.int IntKind.i64 0, Value.string ⟨#[]⟩, Value.slice none 0 0]))).upd 3 (.cells 3 (vecF [.v (.int .i64 ((n : Int))), .v (.string ⟨#[65, 66]⟩), .own 30 0 1 k.1.length]))).upd 30 (.cells k.1.length (cM ints [] k.1))) (fun k => k.1.length ≤ 2 ∧ ∀ g ∈ k.1, Pm n g) (fun k => 2 - k.1.length) ([], d') ⟨by simp, by simp⟩ (Sub.layMp (fun h => if h = 30 then none else some h) (fun h hh => by
    have : h ≠ 30 := fun e => by subst e; exact absurd hh (by decide)
    exact if_neg this) (lay_cons ⟨_, rfl, .ref rfl⟩ (lay_cons ⟨_, rfl, .ref rfl⟩ (lay_cons ⟨_, rfl, .ref rfl⟩ lay_nil))) (layF_nil rfl (layF_upd (g := 3) (n := 3) rfl rfl (fun i hi => ?_) (layF_upd (g := 2) (n := 3) rfl rfl (fun i hi => ?_) (layF_upd (g := 1000000) (n := 3) rfl rfl (fun i hi => ?_) layF_emp)))) ?_) ?_
  · match i, hi with
    | 0, _ => exact .plain trivial
    | 1, _ => exact .plain trivial
    | 2, _ => exact .nil rfl
  · match i, hi with
    | 0, _ => exact .plain trivial
    | 1, _ => exact .plain trivial
    | 2, _ => exact .plain trivial
  · match i, hi with
    | 0, _ => exact .plain trivial
    | 1, _ => exact .plain trivial
    | 2, _ => exact .plain trivial
  · intro x y k hx hy h1 h2
    split at h1
    · cases h1
    · split at h2
      · cases h2
      · simp only [Option.some.injEq] at h1 h2; omega
  rintro ⟨ms, d1⟩ ⟨hk, hms⟩
  dsimp only at hk hms ⊢
  repeat' (first | ((first | refine atF (f := 24) ?_ | refine atQ (f := 24) ?_); (refine callD (by rfl) (dBelow_ok _ _ (by omega)) (by rintro _ ⟨v, _, rfl⟩ _; rfl) (fun r d' hq => ?_); obtain ⟨v, hv, rfl⟩ := hq) <;> simp (maxSteps := 1000000) (dsimp := false) (implicitDefEqProofs := false) (disch := omega) only [wrap64, go_sem]) | refine awp_seqK fun K hK => ?_ | (refine awp_regionK 16843261 rfl ?_; simp only [List.map_cons, List.map_nil]; simp (maxSteps := 1000000) (dsimp := false) (implicitDefEqProofs := false) (disch := omega) only [wrap64, go_sem]) | (refine awp_regionQK 16843261 (by kernel_rfl) (by kernel_rfl) (by kernel_rfl) ?_; simp only [List.map_cons, List.map_nil]; simp (maxSteps := 1000000) (dsimp := false) (implicitDefEqProofs := false) (disch := omega) only [wrap64, go_sem]) | refine awp_block ?_ | (refine awp_skip ?_; simp only [go_sem]) | (refine awp_exit ?_; simp only [go_sem]) | (refine awp_ret ?_; try simp only [go_sem]) | (refine awp_condP rfl ?_; try simp only [go_sem]) | (refine BrP.mk (fun h => ?_) (fun h => ?_) <;> try simp (dsimp := false) (disch := omega) only [wrap64]) | (refine Br.mk (fun h => ?_) (fun h => ?_) <;> try simp (dsimp := false) (disch := omega) only [wrap64]) | refine Ob.mk (by first | omega | (intro _ _; rfl) | trivial | (intros; trivial) | assumption | (intro i hi; have h0 : i = 0 := (by omega); subst h0; first | rfl | trivial) | (intro i hi; have h0 : i = 0 ∨ i = 1 := (by omega); rcases h0 with rfl | rfl <;> rfl) | (intro i hi; have h0 : i = 0 ∨ i = 1 ∨ i = 2 := (by omega); rcases h0 with rfl | rfl | rfl <;> rfl)) ?_ | ((first | ((first | refine atF (f := 64) ?_ | refine atQ (f := 64) ?_); (first | (refine cI (hac := specIdentI_ok (n : Int) (by omega) 20) (hK := ?_)) | (refine cQI (hac := specIdentI_ok (n : Int) (by omega) 20) (hK := ?_))))); simp (maxSteps := 1000000) (dsimp := false) (implicitDefEqProofs := false) (disch := omega) only [wrap64, go_sem]) | apply_assumption -exfalso -symm)
  all_goals (first | (show endQ _ _ _ _ _ _ _; (repeat (rename (∀ (A : Fr) (H : Hp), AWP _ _ _ _ A H → _) => hK; clear hK)); (repeat (rename (Fr → Hp → Prop) => K; clear K))) | (show Exists _; (repeat (rename (∀ (A : Fr) (H : Hp), AWP _ _ _ _ A H → _) => hK; clear hK)); (repeat (rename (Fr → Hp → Prop) => K; clear K))) | skip)
  · obtain ⟨m, hm⟩ : ∃ m : Nat, (m : Int) = 1 + v := ⟨(1 + v).toNat, by omega⟩
    rw [← hm]
    have hid : Pm n (idn n) := Go.Pm.Pm.idn n
    refine awp_loop (ι := Nat × List Int × Dc) (fun k => [(5, .v (.int .i64 ((k.1 : Nat)))), (4, .own 20 0 1 n), (0, .ref 1000000 0), (2, .ref 2 0), (3, .ref 3 0)]) (fun k => ((((Hp.emp.upd 1000000 (.cells 3 (dF .u64 k.2.2))).upd 2 (.cells 3 (zF [Value.int IntKind.i64 0, Value.string ⟨#[]⟩, Value.slice none 0 0]))).upd 3 (.cells 3 (vecF [.v (.int .i64 ((n : Int))), .v (.string ⟨#[65, 66]⟩), .own 30 0 1 ms.length]))).upd 30 (.cells ms.length (cM ints [] ms))).upd 20 (.cells n (cM iv 0 k.2.1))) (fun k => k.1 ≤ 3 ∧ Pm n k.2.1) (fun k => k.1) (m, idn n, d') ⟨by omega, hid⟩ (by
      have e : (idn n).length = n := hid.1
      rw [e]
      exact Sub.toL (by simp only [go_sem] <;> first | trivial | (simp only [Option.some.injEq, AV.v.injEq, AV.own.injEq, AV.list.injEq, Value.int.injEq, Value.bool.injEq, true_and, and_true]; first | omega | (simp; done)) | (simp; done) | (simp; omega)) (by (repeat' (first | exact Hp.le_emp _ | exact Hp.le_refl _ | refine Hp.le_upd ?_ ?_)); all_goals (first | rfl | (simp only [go_sem]; first | rfl | (refine cellsE ?_ ?_ <;> (simp)) | (simp))))) ?_
    rintro ⟨k, g, d2⟩ ⟨hk3, hg⟩
    dsimp only at hk3 hg ⊢
    have hgl := hg.1
    repeat' (first | ((first | refine atF (f := 24) ?_ | refine atQ (f := 24) ?_); (refine callD (by rfl) (dBelow_ok _ _ (by omega)) (by rintro _ ⟨v, _, rfl⟩ _; rfl) (fun r d' hq => ?_); obtain ⟨v, hv, rfl⟩ := hq) <;> simp (maxSteps := 1000000) (dsimp := false) (implicitDefEqProofs := false) (disch := omega) only [wrap64, go_sem]) | refine awp_seqK fun K hK => ?_ | (refine awp_regionK 16843261 rfl ?_; simp only [List.map_cons, List.map_nil]; simp (maxSteps := 1000000) (dsimp := false) (implicitDefEqProofs := false) (disch := omega) only [wrap64, go_sem]) | (refine awp_regionQK 16843261 (by kernel_rfl) (by kernel_rfl) (by kernel_rfl) ?_; simp only [List.map_cons, List.map_nil]; simp (maxSteps := 1000000) (dsimp := false) (implicitDefEqProofs := false) (disch := omega) only [wrap64, go_sem]) | refine awp_block ?_ | (refine awp_skip ?_; simp only [go_sem]) | (refine awp_exit ?_; simp only [go_sem]) | (refine awp_ret ?_; try simp only [go_sem]) | (refine awp_condP rfl ?_; try simp only [go_sem]) | (refine BrP.mk (fun h => ?_) (fun h => ?_) <;> try simp (dsimp := false) (disch := omega) only [wrap64]) | (refine Br.mk (fun h => ?_) (fun h => ?_) <;> try simp (dsimp := false) (disch := omega) only [wrap64]) | refine Ob.mk (by first | omega | (intro _ _; rfl) | trivial | (intros; trivial) | assumption | (intro i hi; have h0 : i = 0 := (by omega); subst h0; first | rfl | trivial) | (intro i hi; have h0 : i = 0 ∨ i = 1 := (by omega); rcases h0 with rfl | rfl <;> rfl) | (intro i hi; have h0 : i = 0 ∨ i = 1 ∨ i = 2 := (by omega); rcases h0 with rfl | rfl | rfl <;> rfl)) ?_ | apply_assumption -exfalso -symm)
    all_goals (first | (show endQ _ _ _ _ _ _ _; (repeat (rename (∀ (A : Fr) (H : Hp), AWP _ _ _ _ A H → _) => hK; clear hK)); (repeat (rename (Fr → Hp → Prop) => K; clear K))) | (show Exists _; (repeat (rename (∀ (A : Fr) (H : Hp), AWP _ _ _ _ A H → _) => hK; clear hK)); (repeat (rename (Fr → Hp → Prop) => K; clear K))) | skip)
    · rename_i v1 hv1
      have hs := pm_swap hg (i := v1.toNat) (j := v.toNat) (by omega) (by omega)
      refine ⟨(k - 1, (g.set v1.toNat (g.getD v.toNat 0)).set v.toNat (g.getD v1.toNat 0), d'), ⟨by omega, hs⟩, by omega, Sub.toLF (by simp only [go_sem] <;> first | trivial | (simp only [Option.some.injEq, AV.v.injEq, AV.own.injEq, AV.list.injEq, Value.int.injEq, Value.bool.injEq, true_and, and_true]; first | omega | (simp; done)) | (simp; done) | (simp; omega)) (leF_upd rfl (bfE rfl (fun i hi => ?_)) (leF_upd rfl (.refl _ _ _) (leF_upd rfl (.refl _ _ _) (leF_upd rfl (.refl _ _ _) (leF_upd rfl (.refl _ _ _) leF_emp id) id) id) id) id)⟩
      rw [setF_iv _ _ _ (by simp; omega)]
    · refine ⟨(ms ++ [g], d2), ⟨by simp; omega, fun x hx => ?_⟩, by simp; omega, ?_⟩
      · rcases List.mem_append.1 hx with h1 | h1
        · exact hms x h1
        · rw [List.mem_singleton.1 h1]; exact hg
      · refine Sub.toFF (fun x => x = 20) (Fr.fit_cons rfl (.refl _) (Fr.fit_cons rfl (.refl _) (Fr.fit_cons rfl (.refl _) (Fr.fit_nil _)))) ?_
        refine leF_upd rfl ⟨by simp, fun i hi => ?_⟩ (leF_upd rfl ⟨rfl, fun i hi => ?_⟩ (leF_upd rfl (.refl _ _ _) (leF_upd rfl (.refl _ _ _) leF_emp (by omega)) (by omega)) (by omega)) (by omega)
        · by_cases hi2 : i < ms.length
          · exact .ofEq (by simp [apF, scF, cM, AV.scrub, List.getD_eq_getElem?_getD, List.getElem?_append, hi2, ints])
          · have hi3 : i = ms.length := by omega
            have e2 : apF ms.length (scF (fun x => x == 30) (cM ints [] ms)) (scF (fun x => x == 30) (setF (zF [Value.slice none 0 0]) 0 (AV.own 20 0 1 n))) i = AV.own 20 0 1 n := by subst hi3; simp [apF, scF, setF, AV.scrub]
            have e3 : cM ints [] (ms ++ [g]) i = ints g := by subst hi3; simp [cM, List.getD_eq_getElem?_getD]
            rw [e2, e3]
            exact fits_I rfl rfl rfl hgl.symm
        · match i, hi with
          | 0, _ => exact .refl _
          | 1, _ => exact .refl _
          | 2, _ => exact .ofEq (by simp [setF, vecF])
  · have hm : ms.length = 2 := by omega
    refine end_postCF (fun x => x = 30) (H' := DH .u64 d1) (g := vecF [.v (.int .i64 ((n : Int))), .v (.string ⟨#[65, 66]⟩), .list false 1 (ms).length (cM ints [] (ms))]) rfl rfl (by simp only [go_sem]; rfl) rfl (fun i hi => ?_) (leF_upd rfl (.refl _ _ _) leF_emp (by omega)) rfl (by omega) ⟨d1, ⟨⟨n, ⟨#[65, 66]⟩, ms⟩, ?_, rfl⟩, rfl⟩
    · match i, hi with
      | 0, _ => exact .refl _
      | 1, _ => exact .refl _
      | 2, _ => exact fits_II rfl rfl rfl rfl
    · have hp : ∀ j, j < ms.length → Pm n (ms.getD j []) := fun j hj => hms _ (by rw [List.getD_eq_getElem?_getD, List.getElem?_eq_getElem hj]; exact List.getElem_mem hj)
      refine ⟨⟨⟨by show 1 ≤ (n : Int) ∧ (n : Int) ≤ 20; omega, by show ms.length ≤ 8; omega, fun j hj => ⟨by rw [(hp j hj).1], (isPerm_pm _).2 ⟨by rw [(hp j hj).1]; omega, by rw [(hp j hj).1]; exact hp j hj⟩⟩⟩, by show ms.length ≠ 0; omega, ?_, fun i hi => ?_⟩, by show 3 ≤ (n : Int); omega, by show (n : Int) ≤ 5; omega, hm⟩
      · show 2 = ms.length; omega
      · have hi2 : i < 2 := hi
        have e : i = 0 ∨ i = 1 := by omega
        rcases e with rfl | rfl
        · show isName ⟨#[65, 66]⟩ 0
          exact ⟨⟨by decide, by decide⟩, fun k hk => absurd hk (by omega)⟩
        · show isName ⟨#[65, 66]⟩ 1
          refine ⟨⟨by decide, by decide⟩, fun k hk => ?_⟩
          have e : k = 0 := by omega
          subst e; decide
end Go.Proofs.YticbabpajligbaaDoor
end
/- Words of dice. -/
section
namespace Go.Proofs.YticbabpajligbaaDoor
open Go.Av
set_option linter.unusedSimpArgs false
set_option linter.unusedVariables false
attribute [local irreducible] AWP CallG Ob Br BrP Go.Av.Sub endQ AOps OpV AC thenA blkA opsVC opVC withA withArgs opsQ opQ CallQ withA2 withArgs2
theorem w9Letter_ok (d : Dc) (m : Nat) (hm : 1 ≤ m ∧ m ≤ 8) : AC Tryd.prog 59 [.ref 1000000 0, .v (.int .i64 ((m : Int)))] (DH .u64 d) pM (postD .u64 fun r => ∃ v : Int, isL m v ∧ r = .v (.int .i64 (v))) := by
  refine ac_of_awp (N := ⟨_, pM, fun h hh => pM_low (Nat.lt_of_lt_of_le hh (by decide)), true⟩) Tryd.func59 rfl (by kernel_rfl) Tryd.ntmps59 (by simp) ?_
  simp only [argsFr, List.zipIdx_cons, List.zipIdx_nil, go_sem]
  unfold DH
  repeat' (first | ((first | refine atF (f := 24) ?_ | refine atQ (f := 24) ?_); (refine callD (by rfl) (dBelow_ok _ _ (by omega)) (by rintro _ ⟨v, _, rfl⟩ _; rfl) (fun r d' hq => ?_); obtain ⟨v, hv, rfl⟩ := hq) <;> simp (maxSteps := 1000000) (dsimp := false) (implicitDefEqProofs := false) (disch := omega) only [wrap64, go_sem]) | refine awp_seqK fun K hK => ?_ | (refine awp_regionK 4147 rfl ?_; simp only [List.map_cons, List.map_nil]; simp (maxSteps := 1000000) (dsimp := false) (implicitDefEqProofs := false) (disch := omega) only [wrap64, go_sem]) | (refine awp_regionQK 4147 (by kernel_rfl) (by kernel_rfl) (by kernel_rfl) ?_; simp only [List.map_cons, List.map_nil]; simp (maxSteps := 1000000) (dsimp := false) (implicitDefEqProofs := false) (disch := omega) only [wrap64, go_sem]) | refine awp_block ?_ | (refine awp_skip ?_; simp only [go_sem]) | (refine awp_exit ?_; simp only [go_sem]) | (refine awp_ret ?_; try simp only [go_sem]) | (refine awp_condP rfl ?_; try simp only [go_sem]) | (refine BrP.mk (fun h => ?_) (fun h => ?_) <;> try simp (dsimp := false) (disch := omega) only [wrap64]) | (refine Br.mk (fun h => ?_) (fun h => ?_) <;> try simp (dsimp := false) (disch := omega) only [wrap64]) | refine Ob.mk (by first | omega | (intro _ _; rfl) | trivial | (intros; trivial) | assumption | (intro i hi; have h0 : i = 0 := (by omega); subst h0; first | rfl | trivial) | (intro i hi; have h0 : i = 0 ∨ i = 1 := (by omega); rcases h0 with rfl | rfl <;> rfl) | (intro i hi; have h0 : i = 0 ∨ i = 1 ∨ i = 2 := (by omega); rcases h0 with rfl | rfl | rfl <;> rfl)) ?_ | apply_assumption -exfalso -symm)
  all_goals (first | (show endQ _ _ _ _ _ _ _; (repeat (rename (∀ (A : Fr) (H : Hp), AWP _ _ _ _ A H → _) => hK; clear hK)); (repeat (rename (Fr → Hp → Prop) => K; clear K))) | (show Exists _; (repeat (rename (∀ (A : Fr) (H : Hp), AWP _ _ _ _ A H → _) => hK; clear hK)); (repeat (rename (Fr → Hp → Prop) => K; clear K))) | skip)
  all_goals exact end_post rfl rfl (Hp.le_refl _) ⟨d', ⟨_, by unfold isL; omega, rfl⟩, rfl⟩
theorem w9Word_ok (d : Dc) (m : Nat) (most : Int) (hm : 1 ≤ m ∧ m ≤ 8) (hmo : 0 ≤ most ∧ most ≤ 190) : AC Tryd.prog 25 [.ref 1000000 0, .v (.int .i64 ((m : Int))), .v (.int .i64 (most))] (DH .u64 d) pM (postD .u64 fun r => ∃ w : List Int, (isW (m : Int) w ∧ (w.length : Int) ≤ most) ∧ r = ints w) := by
  refine ac_of_awp (N := ⟨_, pM, fun h hh => pM_low (Nat.lt_of_lt_of_le hh (by decide)), true⟩) Tryd.func25 rfl (by kernel_rfl) Tryd.ntmps25 (by simp) ?_
  simp only [argsFr, List.zipIdx_cons, List.zipIdx_nil, go_sem]
  unfold DH
  repeat' (first | ((first | refine atF (f := 24) ?_ | refine atQ (f := 24) ?_); (refine callD (by rfl) (dBelow_ok _ _ (by omega)) (by rintro _ ⟨v, _, rfl⟩ _; rfl) (fun r d' hq => ?_); obtain ⟨v, hv, rfl⟩ := hq) <;> simp (maxSteps := 1000000) (dsimp := false) (implicitDefEqProofs := false) (disch := omega) only [wrap64, go_sem]) | refine awp_seqK fun K hK => ?_ | (refine awp_regionK 33223 rfl ?_; simp only [List.map_cons, List.map_nil]; simp (maxSteps := 1000000) (dsimp := false) (implicitDefEqProofs := false) (disch := omega) only [wrap64, go_sem]) | (refine awp_regionQK 33223 (by kernel_rfl) (by kernel_rfl) (by kernel_rfl) ?_; simp only [List.map_cons, List.map_nil]; simp (maxSteps := 1000000) (dsimp := false) (implicitDefEqProofs := false) (disch := omega) only [wrap64, go_sem]) | refine awp_block ?_ | (refine awp_skip ?_; simp only [go_sem]) | (refine awp_exit ?_; simp only [go_sem]) | (refine awp_ret ?_; try simp only [go_sem]) | (refine awp_condP rfl ?_; try simp only [go_sem]) | (refine BrP.mk (fun h => ?_) (fun h => ?_) <;> try simp (dsimp := false) (disch := omega) only [wrap64]) | (refine Br.mk (fun h => ?_) (fun h => ?_) <;> try simp (dsimp := false) (disch := omega) only [wrap64]) | refine Ob.mk (by first | omega | (intro _ _; rfl) | trivial | (intros; trivial) | assumption | (intro i hi; have h0 : i = 0 := (by omega); subst h0; first | rfl | trivial) | (intro i hi; have h0 : i = 0 ∨ i = 1 := (by omega); rcases h0 with rfl | rfl <;> rfl) | (intro i hi; have h0 : i = 0 ∨ i = 1 ∨ i = 2 := (by omega); rcases h0 with rfl | rfl | rfl <;> rfl)) ?_ | apply_assumption -exfalso -symm)
  all_goals (first | (show endQ _ _ _ _ _ _ _; (repeat (rename (∀ (A : Fr) (H : Hp), AWP _ _ _ _ A H → _) => hK; clear hK)); (repeat (rename (Fr → Hp → Prop) => K; clear K))) | (show Exists _; (repeat (rename (∀ (A : Fr) (H : Hp), AWP _ _ _ _ A H → _) => hK; clear hK)); (repeat (rename (Fr → Hp → Prop) => K; clear K))) | skip)
  obtain ⟨n, rfl⟩ := Int.eq_ofNat_of_zero_le hv.1
  refine awp_loop (ι := Nat × List Int × Dc) (fun k => [(8, .v (.int .i64 ((k.1 : Nat)))), (7, .own 9 0 1 k.2.1.length), (0, .ref 1000000 0), (1, .v (.int .i64 ((m : Int))))]) (fun k => (Hp.emp.upd 1000000 (.cells 3 (dF .u64 k.2.2))).upd 9 (.cells k.2.1.length (cM iv 0 k.2.1))) (fun k => k.1 + k.2.1.length ≤ n ∧ ∀ x ∈ k.2.1, isL (m : Int) x) (fun k => k.1) (n, [], d') ⟨by simp, by simp⟩ (Sub.toL (by simp only [go_sem] <;> first | trivial | (simp only [Option.some.injEq, AV.v.injEq, AV.own.injEq, AV.list.injEq, Value.int.injEq, Value.bool.injEq, true_and, and_true]; first | omega | (simp; done)) | (simp; done) | (simp; omega)) (by (repeat' (first | exact Hp.le_emp _ | exact Hp.le_refl _ | refine Hp.le_upd ?_ ?_)); all_goals (first | rfl | (simp only [go_sem]; first | rfl | (refine cellsE ?_ ?_ <;> (simp)) | (simp))))) ?_
  rintro ⟨k, w, d1⟩ ⟨hk, hw⟩
  dsimp only at hk hw ⊢
  repeat' (first | ((first | refine atF (f := 59) ?_ | refine atQ (f := 59) ?_); (refine callD (by rfl) (w9Letter_ok _ _ hm) (by rintro _ ⟨v, _, rfl⟩ _; rfl) (fun r d2 hq => ?_); obtain ⟨v, hv2, rfl⟩ := hq) <;> simp (maxSteps := 1000000) (dsimp := false) (implicitDefEqProofs := false) (disch := omega) only [wrap64, go_sem]) | refine awp_seqK fun K hK => ?_ | (refine awp_regionK 33223 rfl ?_; simp only [List.map_cons, List.map_nil]; simp (maxSteps := 1000000) (dsimp := false) (implicitDefEqProofs := false) (disch := omega) only [wrap64, go_sem]) | (refine awp_regionQK 33223 (by kernel_rfl) (by kernel_rfl) (by kernel_rfl) ?_; simp only [List.map_cons, List.map_nil]; simp (maxSteps := 1000000) (dsimp := false) (implicitDefEqProofs := false) (disch := omega) only [wrap64, go_sem]) | refine awp_block ?_ | (refine awp_skip ?_; simp only [go_sem]) | (refine awp_exit ?_; simp only [go_sem]) | (refine awp_ret ?_; try simp only [go_sem]) | (refine awp_condP rfl ?_; try simp only [go_sem]) | (refine BrP.mk (fun h => ?_) (fun h => ?_) <;> try simp (dsimp := false) (disch := omega) only [wrap64]) | (refine Br.mk (fun h => ?_) (fun h => ?_) <;> try simp (dsimp := false) (disch := omega) only [wrap64]) | refine Ob.mk (by first | omega | (intro _ _; rfl) | trivial | (intros; trivial) | assumption | (intro i hi; have h0 : i = 0 := (by omega); subst h0; first | rfl | trivial) | (intro i hi; have h0 : i = 0 ∨ i = 1 := (by omega); rcases h0 with rfl | rfl <;> rfl) | (intro i hi; have h0 : i = 0 ∨ i = 1 ∨ i = 2 := (by omega); rcases h0 with rfl | rfl | rfl <;> rfl)) ?_ | apply_assumption -exfalso -symm)
  all_goals (first | (show endQ _ _ _ _ _ _ _; (repeat (rename (∀ (A : Fr) (H : Hp), AWP _ _ _ _ A H → _) => hK; clear hK)); (repeat (rename (Fr → Hp → Prop) => K; clear K))) | (show Exists _; (repeat (rename (∀ (A : Fr) (H : Hp), AWP _ _ _ _ A H → _) => hK; clear hK)); (repeat (rename (Fr → Hp → Prop) => K; clear K))) | skip)
  · refine ⟨(k - 1, w ++ [v], d2), ⟨by simp; omega, fun x hx => ?_⟩, by omega, Sub.toL (by simp only [go_sem] <;> first | trivial | (simp only [Option.some.injEq, AV.v.injEq, AV.own.injEq, AV.list.injEq, Value.int.injEq, Value.bool.injEq, true_and, and_true]; first | omega | (simp; done)) | (simp; done) | (simp; omega)) (by (repeat' (first | exact Hp.le_emp _ | exact Hp.le_refl _ | refine Hp.le_upd ?_ ?_)); all_goals (first | rfl | (simp only [go_sem]; first | rfl | (refine cellsE ?_ ?_ <;> (simp)) | (simp))))⟩
    rcases List.mem_append.1 hx with h1 | h1
    · exact hw x h1
    · rw [List.mem_singleton.1 h1]; exact hv2
  · refine end_postS (H' := DH .u64 d1) rfl (Sub.toFF (fun x => x = 9) (Fr.fit_cons rfl (fits_I rfl rfl rfl rfl) (Fr.fit_nil _)) (leF_upd rfl (.refl _ _ _) leF_emp (by omega))) ⟨d1, ⟨w, ⟨⟨by omega, fun j hj => hw _ ?_⟩, by omega⟩, rfl⟩, rfl⟩
    rw [List.getD_eq_getElem?_getD, List.getElem?_eq_getElem hj]; exact List.getElem_mem hj
end Go.Proofs.YticbabpajligbaaDoor
end
