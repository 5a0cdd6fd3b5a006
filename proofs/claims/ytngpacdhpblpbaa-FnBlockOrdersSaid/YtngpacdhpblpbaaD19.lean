import Derived.Test.YtngpacdhpblpbaaD18
import Derived.Test.YtngpacdhpblpbaaD3
import Derived.Test.YtngpacdhpblpbaaD5
import Derived.Test.YtngpacdhpblpbaaD2
/- Sorted indices over rows of numbers: the order of rows, where a row stands, how one is put in. -/
section
namespace Go.Pm
set_option linter.unusedVariables false
set_option linter.unusedSimpArgs false

def lx : List Int → List Int → Bool
  | x :: xs, y :: ys => if x = y then lx xs ys else decide (x < y)
  | _, _ => false
theorem lx_irr : ∀ a : List Int, lx a a = false
  | [] => rfl
  | x :: xs => by simp [lx, lx_irr xs]
theorem lx_trans : ∀ {a b c : List Int}, lx a b = true → lx b c = true → lx a c = true
  | [], _, _, h, _ => by simp [lx] at h
  | _ :: _, [], _, h, _ => by simp [lx] at h
  | _ :: _, _ :: _, [], _, h => by simp [lx] at h
  | x :: xs, y :: ys, z :: zs, h, k => by
    unfold lx at h k ⊢
    by_cases h1 : x = y
    · subst h1
      by_cases h2 : x = z
      · subst h2; simp only [if_true] at h k ⊢; exact lx_trans h k
      · simp only [if_true, if_neg h2] at k ⊢; exact k
    · simp only [if_neg h1, decide_eq_true_eq] at h
      by_cases h2 : y = z
      · subst h2; rw [if_neg h1]; simpa using h
      · simp only [if_neg h2, decide_eq_true_eq] at k
        rw [if_neg (by omega)]; simp; omega
/-- The j-th row in the sorted order. -/
def srow (xs : List (List Int)) (so : List Int) (j : Nat) : List Int := xs.getD (so.getD j 0).toNat []
structure Srt (m : Nat) (xs : List (List Int)) (so : List Int) : Prop where
  len : so.length = xs.length
  same : ∀ s ∈ xs, s.length = m
  rng : ∀ i, i < so.length → 0 ≤ so.getD i 0 ∧ so.getD i 0 < xs.length
  inc : ∀ i j, i < j → j < so.length → lx (srow xs so i) (srow xs so j) = true
  sur : ∀ k : Nat, k < xs.length → ∃ i, i < so.length ∧ so.getD i 0 = (k : Int)
/-- Where a row stands or would stand. -/
structure Slot (xs : List (List Int)) (so : List Int) (s : List Int) (a : Nat) : Prop where
  le : a ≤ so.length
  lo : ∀ i, i < a → lx (srow xs so i) s = true
  hi : ∀ i, a ≤ i → i < so.length → lx (srow xs so i) s = false
def slot (xs : List (List Int)) (so : List Int) (s : List Int) : Nat := so.findIdx fun j => !lx (xs.getD j.toNat []) s
/-- The index of a row, or -1. -/
def sidx (xs : List (List Int)) (s : List Int) : Int := if s ∈ xs then (xs.idxOf s : Int) else -1
section
variable {m : Nat} {xs : List (List Int)} {so : List Int} {s : List Int}
theorem Slot.eq {a : Nat} (h : Slot xs so s a) : slot xs so s = a := by
  unfold slot
  by_cases e : a < so.length
  · refine (List.findIdx_eq e).2 ⟨?_, fun j hj => ?_⟩
    · have := h.hi a (Nat.le_refl _) e
      unfold srow at this
      rw [List.getD_eq_getElem?_getD (l := so), List.getElem?_eq_getElem e, Option.getD_some] at this
      rw [this]; rfl
    · have := h.lo j hj
      have hj' : j < so.length := by omega
      unfold srow at this
      rw [List.getD_eq_getElem?_getD (l := so), List.getElem?_eq_getElem hj', Option.getD_some] at this
      rw [this]; rfl
  · have ha : a = so.length := by have := h.le; omega
    subst ha
    refine List.findIdx_eq_length.2 fun j hj => ?_
    obtain ⟨i, hi, rfl⟩ := List.getElem_of_mem hj
    have := h.lo i hi
    unfold srow at this
    rw [List.getD_eq_getElem?_getD (l := so), List.getElem?_eq_getElem hi, Option.getD_some] at this
    rw [this]; rfl
theorem mem_getD {l : List (List Int)} {i : Nat} (h : i < l.length) : l.getD i [] ∈ l := by
  rw [List.getD_eq_getElem?_getD, List.getElem?_eq_getElem h]; exact List.getElem_mem h
theorem Srt.row (h : Srt m xs so) {i : Nat} (hi : i < so.length) : srow xs so i ∈ xs := by
  have := h.rng i hi
  exact mem_getD (by omega)
theorem Srt.slot (h : Srt m xs so) (s : List Int) : Slot xs so s (Go.Pm.slot xs so s) := by
  unfold Go.Pm.slot
  have g : ∀ i, i < so.length → so.getD i 0 = so[i]! := fun i hi => by simp [List.getD_eq_getElem?_getD, hi]
  refine ⟨List.findIdx_le_length, fun i hi => ?_, fun i hi hl => ?_⟩
  · have hl : i < so.length := Nat.lt_of_lt_of_le hi List.findIdx_le_length
    have := List.not_of_lt_findIdx hi
    unfold srow
    rw [List.getD_eq_getElem?_getD (l := so), List.getElem?_eq_getElem hl, Option.getD_some]
    simpa using this
  · have hf : so.findIdx (fun j => !lx (xs.getD j.toNat []) s) < so.length := by omega
    have h1 := List.findIdx_getElem (w := hf)
    have h2 : lx (srow xs so (so.findIdx fun j => !lx (xs.getD j.toNat []) s)) s = false := by
      unfold srow
      rw [List.getD_eq_getElem?_getD (l := so), List.getElem?_eq_getElem hf, Option.getD_some]
      simpa using h1
    rcases Nat.lt_or_eq_of_le hi with h3 | h3
    · cases e : lx (srow xs so i) s with
      | false => rfl
      | true => have := lx_trans (h.inc _ _ h3 hl) e; rw [h2] at this; cases this
    · rw [← h3]; exact h2
theorem Srt.below (h : Srt m xs so) {k : Nat} (hk : k < so.length) (e : lx (srow xs so k) s = true) : ∀ i, i < k + 1 → lx (srow xs so i) s = true := fun i hi => by
  by_cases h1 : i = k
  · subst h1; exact e
  · exact lx_trans (h.inc i k (by omega) hk) e
theorem Srt.above (h : Srt m xs so) {k : Nat} (e : lx (srow xs so k) s = false) : ∀ i, k ≤ i → i < so.length → lx (srow xs so i) s = false := fun i h1 h2 => by
  by_cases h3 : i = k
  · subst h3; exact e
  · cases e2 : lx (srow xs so i) s with
    | false => rfl
    | true => have := lx_trans (h.inc k i (by omega) h2) e2; rw [e] at this; cases this
/-- The row is met at its slot, or not at all. -/
theorem Srt.found (h : Srt m xs so) (nd : xs.Nodup) (hs : s.length = m) {a : Nat} (ha : Slot xs so s a) : (a < so.length ∧ srow xs so a = s → so.getD a 0 = sidx xs s) ∧ (¬ (a < so.length ∧ srow xs so a = s) → sidx xs s = -1) := by
  constructor
  · rintro ⟨h1, h2⟩
    have h3 := h.rng a h1
    have hm : s ∈ xs := h2 ▸ h.row h1
    unfold sidx
    rw [if_pos hm]
    unfold srow at h2
    have hlt : (so.getD a 0).toNat < xs.length := by omega
    rw [List.getD_eq_getElem?_getD (l := xs), List.getElem?_eq_getElem hlt, Option.getD_some] at h2
    have := nd.idxOf_getElem _ hlt
    rw [h2] at this
    omega
  · intro hn
    unfold sidx
    rw [if_neg]
    intro hm
    refine hn ?_
    obtain ⟨k, hk, e⟩ := List.getElem_of_mem hm
    obtain ⟨i, hi, ei⟩ := h.sur k hk
    have e1 : srow xs so i = s := by
      unfold srow; rw [ei, Int.toNat_natCast, List.getD_eq_getElem?_getD, List.getElem?_eq_getElem hk]; exact e
    have h1 : a ≤ i := by
      refine Nat.le_of_not_lt fun hl => ?_
      have := ha.lo i hl
      rw [e1, lx_irr] at this; cases this
    have h2 : i ≤ a := by
      refine Nat.le_of_not_lt fun hl => ?_
      have h3 := ha.hi a (Nat.le_refl _) (by omega)
      have h4 := h.inc a i hl hi
      rw [e1, h3] at h4; cases h4
    have : a = i := by omega
    subst this
    exact ⟨hi, e1⟩
theorem Srt.one (s0 : List Int) : Srt s0.length [s0] [0] := by
  refine ⟨rfl, by simp, ?_, ?_, ?_⟩
  · intro i hi; simp at hi; subst hi; simp
  · intro i j hij hj; simp at hj; omega
  · intro k hk; simp at hk; subst hk; exact ⟨0, by simp, rfl⟩
end
end Go.Pm
end
/- The whole search: depths, neighbors, how many rows there are; the order of a group. -/
section
namespace Go.Pm
set_option linter.unusedVariables false
set_option linter.unusedSimpArgs false

section
variable {Ls : List (Int × List Int)} {s0 : List Int} {n : Nat}
/-- Depths: they do not fall; beside the state number k they are at most one more; each but the first has a parent. -/
structure Bf.Dp (Ls : List (Int × List Int)) (k : Nat) (B : Bf) : Prop where
  ld : B.dp.length = B.st.length
  z : B.dp.getD 0 0 = 0
  mono : ∀ i j, i ≤ j → j < B.st.length → B.dp.getD i 0 ≤ B.dp.getD j 0
  bd : k < B.st.length → ∀ j, j < B.st.length → B.dp.getD j 0 ≤ B.dp.getD k 0 + 1
  par : ∀ j, 0 < j → j < B.st.length → ∃ q l, q < j ∧ l ∈ Ls ∧ B.st.getD j [] = comp (B.st.getD q []) l.2 ∧ B.dp.getD j 0 = B.dp.getD q 0 + 1
theorem Bf.Dp.meet {k : Nat} {x : Bf × List Int} {l : Int × List Int} (hl : l ∈ Ls) (hk : k < x.1.st.length) (h : Bf.Dp Ls k x.1) : Bf.Dp Ls k (Bf.meet k x l).1 := by
  unfold Bf.meet
  split
  · exact h
  · have hld := h.ld
    have g : ∀ j, j < x.1.st.length → (x.1.dp ++ [x.1.dp.getD k 0 + 1]).getD j 0 = x.1.dp.getD j 0 := fun j hj => by
      rw [Go.Av.getD_append, if_pos (by omega)]
    have g1 : (x.1.dp ++ [x.1.dp.getD k 0 + 1]).getD x.1.st.length 0 = x.1.dp.getD k 0 + 1 := by
      rw [Go.Av.getD_append, if_neg (by omega), hld, Nat.sub_self]; rfl
    have s : ∀ j, j < x.1.st.length → (x.1.st ++ [comp (x.1.st.getD k []) l.2]).getD j [] = x.1.st.getD j [] := fun j hj => by
      rw [Go.Av.getD_append, if_pos (by omega)]
    refine ⟨by simp [hld], ?_, ?_, ?_, ?_⟩
    · rw [g 0 (by omega)]; exact h.z
    · intro i j hij hj
      simp only [List.length_append, List.length_cons, List.length_nil] at hj
      by_cases e : j = x.1.st.length
      · subst e
        rw [g1]
        by_cases e2 : i = x.1.st.length
        · subst e2; rw [g1]; exact Int.le_refl _
        · rw [g i (by omega)]; exact h.bd hk i (by omega)
      · rw [g i (by omega), g j (by omega)]; exact h.mono i j hij (by omega)
    · intro _ j hj
      simp only [List.length_append, List.length_cons, List.length_nil] at hj
      rw [g k hk]
      by_cases e : j = x.1.st.length
      · subst e; rw [g1]; exact Int.le_refl _
      · rw [g j (by omega)]; exact h.bd hk j (by omega)
    · intro j h0 hj
      simp only [List.length_append, List.length_cons, List.length_nil] at hj
      by_cases e : j = x.1.st.length
      · subst e
        refine ⟨k, l, hk, hl, ?_, by rw [g1, g k hk]⟩
        dsimp only
        rw [s k hk, Go.Av.getD_append, if_neg (by omega), Nat.sub_self]; rfl
      · obtain ⟨q, l', h1, h2, h3, h4⟩ := h.par j h0 (by omega)
        refine ⟨q, l', h1, h2, ?_, by rw [g j (by omega), g q (by omega)]; exact h4⟩
        dsimp only
        rw [s j (by omega), s q (by omega)]; exact h3
theorem Bf.Dp.rows {k : Nat} {B : Bf} (hk : k < B.st.length) (h : Bf.Dp Ls k B) : ∀ j, j ≤ Ls.length → Bf.Dp Ls k (B.rows Ls k j).1
  | 0, _ => h
  | j + 1, hj => by
    rw [Bf.rows_succ k B (by omega)]
    exact Bf.Dp.meet (mem_getD_of_lt _ (by omega)) (Nat.lt_of_lt_of_le hk ((Bf.rows_more k B j (by omega)).st.length_le)) (Bf.Dp.rows hk h j (by omega))
theorem Bf.Dp.next {k : Nat} {B : Bf} (hk : k < B.st.length) (h : Bf.Dp Ls k B) : Bf.Dp Ls (k + 1) (B.step Ls k) := by
  have h1 := Bf.Dp.rows hk h Ls.length (Nat.le_refl _)
  have h2 := (Bf.rows_more (Ls := Ls) k B Ls.length (Nat.le_refl _)).st.length_le
  refine ⟨h1.ld, h1.z, h1.mono, fun hk1 j hj => ?_, h1.par⟩
  have h3 := h1.bd (by omega) j hj
  have h4 := h1.mono k (k + 1) (by omega) hk1
  show (B.rows Ls k Ls.length).1.dp.getD j 0 ≤ (B.rows Ls k Ls.length).1.dp.getD (k + 1) 0 + 1
  omega
theorem Bf.Dp.run : ∀ k, (∀ j, j < k → j < (Bf.run Ls s0 j).st.length) → Bf.Dp Ls k (Bf.run Ls s0 k)
  | 0, _ => by
    refine ⟨rfl, rfl, ?_, ?_, ?_⟩
    · intro i j hij hj; simp [Bf.run] at hj; subst hj; obtain rfl : i = 0 := by omega
      exact Int.le_refl _
    · intro _ j hj; simp [Bf.run] at hj; subst hj; simp [Bf.run]
    · intro j h0 hj; simp [Bf.run] at hj; omega
  | k + 1, h => Bf.Dp.next (h k (by omega)) (Bf.Dp.run k fun j hj => h j (by omega))
/-- What the whole search gives. -/
structure Bf.Whole (n : Nat) (Ls : List (Int × List Int)) (s0 : List Int) (B : Bf) : Prop where
  nd : B.st.Nodup
  pos : 0 < B.st.length
  st0 : B.st.getD 0 [] = s0
  len : ∀ s ∈ B.st, s.length = s0.length
  rng : ∀ s ∈ B.st, ∀ j, j < s.length → 0 ≤ s.getD j 0 ∧ s.getD j 0 < n
  ld : B.dp.length = B.st.length
  z : B.dp.getD 0 0 = 0
  mono : ∀ i j, i ≤ j → j < B.st.length → B.dp.getD i 0 ≤ B.dp.getD j 0
  par : ∀ j, 0 < j → j < B.st.length → ∃ q l, q < j ∧ l ∈ Ls ∧ B.st.getD j [] = comp (B.st.getD q []) l.2 ∧ B.dp.getD j 0 = B.dp.getD q 0 + 1
  cl : ∀ s ∈ B.st, ∀ l ∈ Ls, comp s l.2 ∈ B.st
  up : ∀ k, k < B.st.length → ∀ l ∈ Ls, B.dp.getD (B.st.idxOf (comp (B.st.getD k []) l.2)) 0 ≤ B.dp.getD k 0 + 1
  nl : B.nx.length = B.st.length
  nx : ∀ k, k < B.st.length → (B.nx.getD k []).length = Ls.length ∧ ∀ i, i < Ls.length → (B.nx.getD k []).getD i 0 = ((B.st.idxOf (comp (B.st.getD k []) (Ls.getD i (0, [])).2) : Nat) : Int)
theorem Bf.nx_len : ∀ k, (∀ j, j < k → j < (Bf.run Ls s0 j).st.length) → (Bf.run Ls s0 k).nx.length = k
  | 0, _ => rfl
  | k + 1, h => by
    have ih := Bf.nx_len k fun j hj => h j (by omega)
    show ((Bf.run Ls s0 k).nx ++ [_]).length = k + 1
    rw [List.length_append, ih]; rfl
theorem Bf.nx_get : ∀ k i, i < k → (∀ j, j < k → j < (Bf.run Ls s0 j).st.length) → (Bf.run Ls s0 k).nx.getD i [] = ((Bf.run Ls s0 i).rows Ls i Ls.length).2
  | 0, i, hi, _ => by omega
  | k + 1, i, hi, h => by
    have hl := Bf.nx_len k fun j hj => h j (by omega)
    show ((Bf.run Ls s0 k).nx ++ [((Bf.run Ls s0 k).rows Ls k Ls.length).2]).getD i [] = _
    rw [Go.Av.getD_append]
    split
    · exact Bf.nx_get k i (by omega) fun j hj => h j (by omega)
    · rw [show i = k by omega, hl, Nat.sub_self]; rfl
theorem Bf.Done.whole (hG : ∀ g ∈ Ls.map (·.2), Pm n g) (hs : ∀ j, j < s0.length → 0 ≤ s0.getD j 0 ∧ s0.getD j 0 < n) {K : Nat} (h : Bf.Done Ls s0 K) : Bf.Whole n Ls s0 (Bf.run Ls s0 K) := by
  have hJ := Bf.J.run hG hs K h.2
  have hD := Bf.Dp.run (Ls := Ls) (s0 := s0) K h.2
  have hlen : ∀ s ∈ (Bf.run Ls s0 K).st, s.length = s0.length := fun s hm => by
    obtain ⟨g, hg, rfl⟩ := hJ.gen s hm
    exact comp_length _ _
  have hrow : ∀ k, k < K → ∀ i, i < Ls.length → comp ((Bf.run Ls s0 K).st.getD k []) (Ls.getD i (0, [])).2 ∈ (Bf.run Ls s0 (k + 1)).st ∧
      ((Bf.run Ls s0 k).rows Ls k Ls.length).2.getD i 0 = (((Bf.run Ls s0 K).st.idxOf (comp ((Bf.run Ls s0 K).st.getD k []) (Ls.getD i (0, [])).2) : Nat) : Int) := fun k hk i hi => by
    have hk1 := h.2 k hk
    obtain ⟨h1, h2⟩ := Bf.rows_row (Ls := Ls) hk1 Ls.length (Nat.le_refl _) i hi
    have e0 : (Bf.run Ls s0 K).st.getD k [] = (Bf.run Ls s0 k).st.getD k [] := pre_getD (Bf.run_more (show k ≤ K by omega)).st hk1 []
    rw [e0]
    refine ⟨h1, h2.trans ?_⟩
    have hm := (Bf.run_more (Ls := Ls) (s0 := s0) (show k + 1 ≤ K by omega)).st
    obtain ⟨r, hr⟩ := hm
    have h1' : comp ((Bf.run Ls s0 k).st.getD k []) (Ls.getD i (0, [])).2 ∈ (Bf.run Ls s0 (k + 1)).st := h1
    rw [← hr, List.idxOf_append, if_pos h1']; rfl
  have hKl := h.1
  refine ⟨hJ.nd, hJ.ne.2, hJ.ne.1, hlen, ?_, hD.ld, hD.z, hD.mono, hD.par, fun s hm l hl => h.closed hm hl, ?_, ?_, ?_⟩
  · intro s hm j hj
    obtain ⟨g, hg, rfl⟩ := hJ.gen s hm
    have hgp := hg.pm hG
    rw [comp_length] at hj
    rw [comp_get _ _ hj]
    have := hs j hj
    exact hgp.2.1 _ (by unfold img; omega)
  · intro k hk l hl
    obtain ⟨i, hi, rfl⟩ := List.getElem_of_mem hl
    have hkK : k < K := by omega
    obtain ⟨h1, h2⟩ := hrow k hkK i hi
    have eL : (Ls.getD i (0, [])) = Ls[i] := by rw [List.getD_eq_getElem?_getD, List.getElem?_eq_getElem hi]; rfl
    rw [eL] at h1
    have hD1 := Bf.Dp.run (Ls := Ls) (s0 := s0) k fun j hj => h.2 j (by omega)
    have hD2 := Bf.Dp.rows (Ls := Ls) (h.2 k hkK) hD1 Ls.length (Nat.le_refl _)
    have hl2 := (Bf.rows_more (Ls := Ls) k (Bf.run Ls s0 k) Ls.length (Nat.le_refl _)).st.length_le
    have hk1 := h.2 k hkK
    have hm := (Bf.run_more (Ls := Ls) (s0 := s0) (show k + 1 ≤ K by omega))
    obtain ⟨r, hr⟩ := hm.st
    have hx : (Bf.run Ls s0 K).st.idxOf (comp ((Bf.run Ls s0 K).st.getD k []) Ls[i].2) = (Bf.run Ls s0 (k + 1)).st.idxOf (comp ((Bf.run Ls s0 K).st.getD k []) Ls[i].2) := by
      rw [← hr] at h1 ⊢
      rw [List.idxOf_append, if_pos h1]
    have hlt : (Bf.run Ls s0 (k + 1)).st.idxOf (comp ((Bf.run Ls s0 K).st.getD k []) Ls[i].2) < (Bf.run Ls s0 (k + 1)).st.length := List.idxOf_lt_length_iff.2 h1
    rw [hx, pre_getD hm.dp (by show _ < ((Bf.run Ls s0 k).rows Ls k Ls.length).1.dp.length; rw [hD2.ld]; exact hlt) 0, pre_getD hm.dp (by show _ < ((Bf.run Ls s0 k).rows Ls k Ls.length).1.dp.length; rw [hD2.ld]; omega) 0]
    exact hD2.bd (by omega) _ hlt
  · rw [Bf.nx_len K h.2]; exact hKl
  · intro k hk
    rw [Bf.nx_get K k (by omega) h.2]
    exact ⟨Bf.rows_len k _ Ls.length (Nat.le_refl _), fun i hi => (hrow k (by omega) i hi).2⟩

/-- The search, if it ends with at most 3000 rows. -/
def Bf.Fin (Ls : List (Int × List Int)) (s0 : List Int) (B : Bf) : Prop := ∃ K, Bf.Done Ls s0 K ∧ K ≤ 3000 ∧ B = Bf.run Ls s0 K
theorem Bf.Fin.uniq {B B' : Bf} (h : Bf.Fin Ls s0 B) (h' : Bf.Fin Ls s0 B') : B = B' := by
  obtain ⟨K, h1, _, rfl⟩ := h
  obtain ⟨K', h2, _, rfl⟩ := h'
  rw [h1.uniq h2]
noncomputable def srch (Ls : List (Int × List Int)) (s0 : List Int) : Option Bf := @dite _ (∃ B, Bf.Fin Ls s0 B) (Classical.propDecidable _) (fun h => some h.choose) (fun _ => none)
theorem srch_none (h : ∀ K, Bf.Done Ls s0 K → 3000 < K) : srch Ls s0 = none := by
  unfold srch
  rw [dif_neg]
  rintro ⟨B, K, h1, h2, _⟩
  have := h K h1; omega
/-- The search is cut: there are more rows. -/
theorem Bf.cut {k i : Nat} (h : ∀ j, j ≤ k → j < (Bf.run Ls s0 j).st.length) (hi : i < Ls.length) (hn : comp (((Bf.run Ls s0 k).rows Ls k i).1.st.getD k []) (Ls.getD i (0, [])).2 ∉ ((Bf.run Ls s0 k).rows Ls k i).1.st) (h3 : 3000 ≤ ((Bf.run Ls s0 k).rows Ls k i).1.st.length) : srch Ls s0 = none := by
  refine srch_none fun K hK => ?_
  have hkK : k < K := by
    refine Nat.lt_of_not_le fun hle => ?_
    have := h K hle
    have := hK.1
    omega
  have h1 : ((Bf.run Ls s0 k).rows Ls k (i + 1)).1.st.length = ((Bf.run Ls s0 k).rows Ls k i).1.st.length + 1 := by
    rw [Bf.rows_succ k _ hi]
    unfold Bf.meet
    rw [if_neg hn]; simp
  have h2 : ∀ a b, a ≤ b → b ≤ Ls.length → ((Bf.run Ls s0 k).rows Ls k a).1.st.length ≤ ((Bf.run Ls s0 k).rows Ls k b).1.st.length := by
    intro a b hab
    induction b with
    | zero => intro _; rw [show a = 0 by omega]; exact Nat.le_refl _
    | succ b ih =>
      intro hb
      by_cases e : a = b + 1
      · rw [e]; exact Nat.le_refl _
      · have := ih (by omega) (by omega)
        rw [Bf.rows_succ k _ (by omega)]
        exact Nat.le_trans this (Bf.meet_more _ _ _).st.length_le
  have h4 := h2 (i + 1) Ls.length (by omega) (Nat.le_refl _)
  have h5 := (Bf.run_more (Ls := Ls) (s0 := s0) (show k + 1 ≤ K by omega)).st.length_le
  have h6 : (Bf.run Ls s0 (k + 1)).st.length = ((Bf.run Ls s0 k).rows Ls k Ls.length).1.st.length := rfl
  have := hK.1
  omega
theorem Bf.rows_mono {k a b : Nat} {B : Bf} (hab : a ≤ b) (hb : b ≤ Ls.length) : (B.rows Ls k a).1.st <+: (B.rows Ls k b).1.st := by
  induction b with
  | zero => rw [show a = 0 by omega]; exact List.prefix_refl _
  | succ b ih =>
    by_cases e : a = b + 1
    · rw [e]; exact List.prefix_refl _
    · refine (ih (by omega) (by omega)).trans ?_
      rw [Bf.rows_succ k _ (by omega)]
      exact (Bf.meet_more _ _ _).st
/-- Where the search is cut. -/
def Bf.CutAt (Ls : List (Int × List Int)) (s0 : List Int) (k i : Nat) : Prop := (∀ j, j ≤ k → j < (Bf.run Ls s0 j).st.length) ∧ i < Ls.length ∧ comp (((Bf.run Ls s0 k).rows Ls k i).1.st.getD k []) (Ls.getD i (0, [])).2 ∉ ((Bf.run Ls s0 k).rows Ls k i).1.st ∧ ((Bf.run Ls s0 k).rows Ls k i).1.st.length = 3000
theorem Bf.CutAt.more {k i k' i' : Nat} (h : Bf.CutAt Ls s0 k i) (hi : i' ≤ Ls.length) (hl : k < k' ∨ (k = k' ∧ i < i')) : 3000 < ((Bf.run Ls s0 k').rows Ls k' i').1.st.length := by
  obtain ⟨h1, h2, h3, h4⟩ := h
  have e : ((Bf.run Ls s0 k).rows Ls k (i + 1)).1.st.length = 3001 := by
    rw [Bf.rows_succ k _ h2]
    unfold Bf.meet
    rw [if_neg h3]; simp [h4]
  rcases hl with hl | ⟨rfl, hl⟩
  · have a1 := (Bf.rows_mono (Ls := Ls) (k := k) (B := Bf.run Ls s0 k) (show i + 1 ≤ Ls.length by omega) (Nat.le_refl _)).length_le
    have a2 : (Bf.run Ls s0 (k + 1)).st.length = ((Bf.run Ls s0 k).rows Ls k Ls.length).1.st.length := rfl
    have a3 := (Bf.run_more (Ls := Ls) (s0 := s0) (show k + 1 ≤ k' by omega)).st.length_le
    have a4 := (Bf.rows_mono (Ls := Ls) (k := k') (B := Bf.run Ls s0 k') (Nat.zero_le i') hi).length_le
    have a5 : ((Bf.run Ls s0 k').rows Ls k' 0).1.st.length = (Bf.run Ls s0 k').st.length := rfl
    omega
  · have a1 := (Bf.rows_mono (Ls := Ls) (k := k) (B := Bf.run Ls s0 k) (show i + 1 ≤ i' by omega) hi).length_le
    omega
theorem Bf.CutAt.uniq {k i k' i' : Nat} (h : Bf.CutAt Ls s0 k i) (h' : Bf.CutAt Ls s0 k' i') : k = k' ∧ i = i' := by
  rcases Nat.lt_trichotomy k k' with h1 | h1 | h1
  · have := h.more (i' := i') (Nat.le_of_lt h'.2.1) (.inl h1); have := h'.2.2.2; omega
  · refine ⟨h1, ?_⟩
    rcases Nat.lt_trichotomy i i' with h2 | h2 | h2
    · have := h.more (i' := i') (Nat.le_of_lt h'.2.1) (.inr ⟨h1, h2⟩); have := h'.2.2.2; omega
    · exact h2
    · have := h'.more (i' := i) (Nat.le_of_lt h.2.1) (.inr ⟨h1.symm, h2⟩); have := h.2.2.2; omega
  · have := h'.more (i' := i) (Nat.le_of_lt h.2.1) (.inl h1); have := h.2.2.2; omega
end

section
variable {Ls : List (Int × List Int)} {s0 : List Int} {n : Nat}
theorem Bf.Dp.le {k : Nat} {B : Bf} (h : Bf.Dp Ls k B) : ∀ j, j < B.st.length → 0 ≤ B.dp.getD j 0 ∧ B.dp.getD j 0 ≤ j := by
  intro j
  induction j using Nat.strongRecOn with
  | _ j ih =>
    intro hj
    by_cases e : j = 0
    · subst e; rw [h.z]; omega
    · obtain ⟨q, l, h1, _, _, h4⟩ := h.par j (by omega) hj
      have := ih q h1 (by omega)
      omega
theorem Bf.Whole.le {B : Bf} (h : Bf.Whole n Ls s0 B) : ∀ j, j < B.st.length → 0 ≤ B.dp.getD j 0 ∧ B.dp.getD j 0 ≤ j := by
  intro j
  induction j using Nat.strongRecOn with
  | _ j ih =>
    intro hj
    by_cases e : j = 0
    · subst e; rw [h.z]; omega
    · obtain ⟨q, l, h1, _, _, h4⟩ := h.par j (by omega) hj
      have := ih q h1 (by omega)
      omega
/-- What holds while the search goes on. -/
theorem Bf.mid (hG : ∀ g ∈ Ls.map (·.2), Pm n g) (hs : ∀ j, j < s0.length → 0 ≤ s0.getD j 0 ∧ s0.getD j 0 < n) {k : Nat} (h : ∀ j, j ≤ k → j < (Bf.run Ls s0 j).st.length) {i : Nat} (hi : i ≤ Ls.length) :
    Bf.J n Ls s0 ((Bf.run Ls s0 k).rows Ls k i).1 ∧ Bf.Dp Ls k ((Bf.run Ls s0 k).rows Ls k i).1 ∧ k < ((Bf.run Ls s0 k).rows Ls k i).1.st.length ∧ (∀ s ∈ ((Bf.run Ls s0 k).rows Ls k i).1.st, s.length = s0.length ∧ ∀ j, j < s.length → 0 ≤ s.getD j 0 ∧ s.getD j 0 < n) := by
  have h1 := Bf.J.run hG hs k fun j hj => h j (by omega)
  have h2 := Bf.J.rows (fun j hj => by have := hs j hj; unfold img; omega) hG (h k (Nat.le_refl _)) h1 i hi
  have h3 := Bf.Dp.rows (Ls := Ls) (h k (Nat.le_refl _)) (Bf.Dp.run (Ls := Ls) (s0 := s0) k fun j hj => h j (by omega)) i hi
  refine ⟨h2, h3, Nat.lt_of_lt_of_le (h k (Nat.le_refl _)) (Bf.rows_more (Ls := Ls) k (Bf.run Ls s0 k) i hi).st.length_le, fun s hm => ?_⟩
  obtain ⟨g, hg, rfl⟩ := h2.gen s hm
  refine ⟨comp_length _ _, fun j hj => ?_⟩
  rw [comp_length] at hj
  rw [comp_get _ _ hj]
  have := hs j hj
  exact (hg.pm hG).2.1 _ (by unfold img; omega)
end
/-- How many members a group has. -/
noncomputable def ordG (n : Nat) (S : List (List Int)) : Nat := @dite _ (∃ m : Nat, ∃ L : List (List Int), L.Nodup ∧ L.length = m ∧ ∀ g, g ∈ L ↔ Gen n S g) (Classical.propDecidable _) (fun h => h.choose) (fun _ => 0)
theorem ordG_eq {n : Nat} {S L : List (List Int)} (nd : L.Nodup) (hL : ∀ g, g ∈ L ↔ Gen n S g) : ordG n S = L.length := by
  have h : ∃ m : Nat, ∃ L : List (List Int), L.Nodup ∧ L.length = m ∧ ∀ g, g ∈ L ↔ Gen n S g := ⟨_, L, nd, rfl, hL⟩
  unfold ordG
  rw [dif_pos h]
  obtain ⟨L', nd', e, hL'⟩ := h.choose_spec
  rw [← e]
  exact Nat.le_antisymm (Go.Plain.nodup_le L L' nd' fun x hx => (hL x).2 ((hL' x).1 hx)) (Go.Plain.nodup_le L' L nd fun x hx => (hL' x).2 ((hL x).1 hx))
theorem ordG_chain {n : Nat} {S : List (List Int)} {C : Ch} (w : C.WF n) (hF : C.Full n 0) (h : ∀ g, Gen n S g ↔ Gen n (C.S 0) g) : ordG n S = C.ord n n 0 := by
  obtain ⟨L, nd, e, hL⟩ := Ch.members w hF
  rw [← e]
  exact ordG_eq nd fun g => (hL g).trans (h g).symm
theorem ordG_list {n : Nat} {S : List (List Int)} (hS : ∀ g ∈ S, Pm n g) : ∃ L : List (List Int), L.Nodup ∧ L.length = ordG n S ∧ ∀ g, g ∈ L ↔ Gen n S g := by
  classical
  obtain ⟨M, nd, hM⟩ := nodup_of ((rowsOf n n).filter fun g => decide (Gen n S g))
  have hM' : ∀ g, g ∈ M ↔ Gen n S g := fun g => by
    rw [hM, List.mem_filter, decide_eq_true_eq]
    exact ⟨fun h => h.2, fun h => ⟨pm_rows (h.pm hS), h⟩⟩
  exact ⟨M, nd, (ordG_eq nd hM').symm, hM'⟩
end Go.Pm
end
/- The order of a group's action on blocks divides the group's order; plain. -/
section
namespace Go.Pm
set_option linter.unusedVariables false
set_option linter.unusedSimpArgs false
section
variable {n : Nat} {bs : List (List Int)}
/-- The number of a point's block. -/
noncomputable def clB (n : Nat) (bs : List (List Int)) (x : Nat) : Nat := img (ixP n bs) x
theorem clB_surj (h : IsPart n bs) {i : Nat} (hi : i < bs.length) : ∃ x, x < n ∧ clB n bs x = i := by
  obtain ⟨x, e, hx, m⟩ := h.entry hi (h.pos hi)
  exact ⟨x, hx, by unfold clB Pm.img; rw [ixP_mem h hi m]; simp⟩
theorem act_img (h : IsPart n bs) {g : List Int} (hg : Pm n g) (hr : Rsp n g bs) {x : Nat} (hx : x < n) : img (actP n bs g) (clB n bs x) = clB n bs (img g x) :=
  congrArg Int.toNat (actP_ix h hg hr hx)
theorem Rsp.idn (n : Nat) (bs : List (List Int)) : Rsp n (Go.Pm.idn n) bs := fun x y hx hy hs => by
  rw [Pm.img_idn hx, Pm.img_idn hy]; exact hs
theorem Rsp.comp {p q : List Int} (hp : Pm n p) (rp : Rsp n p bs) (rq : Rsp n q bs) : Rsp n (Go.Pm.comp p q) bs := fun x y hx hy hs => by
  rw [hp.cimg hx, hp.cimg hy]
  exact rq _ _ (hp.img_lt hx) (hp.img_lt hy) (rp _ _ hx hy hs)
theorem actP_idn (h : IsPart n bs) : actP n bs (Go.Pm.idn n) = Go.Pm.idn bs.length :=
  (actP_pm h (.idn n) (Rsp.idn n bs)).ext_img (.idn _) fun i hi => by
    obtain ⟨x, hx, rfl⟩ := clB_surj h hi
    rw [act_img h (.idn n) (Rsp.idn n bs) hx, Pm.img_idn hx, Pm.img_idn hi]
theorem actP_comp (h : IsPart n bs) {p q : List Int} (hp : Pm n p) (hq : Pm n q) (rp : Rsp n p bs) (rq : Rsp n q bs) : actP n bs (Go.Pm.comp p q) = Go.Pm.comp (actP n bs p) (actP n bs q) :=
  (actP_pm h (hp.comp hq) (rp.comp hp rq)).ext_img ((actP_pm h hp rp).comp (actP_pm h hq rq)) fun i hi => by
    rw [(actP_pm h hp rp).cimg hi]
    obtain ⟨x, hx, rfl⟩ := clB_surj h hi
    rw [act_img h (hp.comp hq) (rp.comp hp rq) hx, act_img h hp rp hx, act_img h hq rq (hp.img_lt hx), hp.cimg hx]
variable {S : List (List Int)}
theorem gen_act (h : IsPart n bs) (hS : ∀ g ∈ S, Pm n g ∧ Rsp n g bs) {p : List Int} (hp : Gen n S p) : Pm n p ∧ Rsp n p bs ∧ Gen bs.length (S.map (actP n bs)) (actP n bs p) := by
  induction hp with
  | one => exact ⟨.idn n, Rsp.idn n bs, by rw [actP_idn h]; exact .one⟩
  | mul _ hg ih =>
    obtain ⟨h1, h2, h3⟩ := ih
    obtain ⟨k1, k2⟩ := hS _ hg
    exact ⟨h1.comp k1, h2.comp h1 k2, by rw [actP_comp h h1 k1 h2 k2]; exact h3.mul (List.mem_map.2 ⟨_, hg, rfl⟩)⟩
theorem act_gen (h : IsPart n bs) (hS : ∀ g ∈ S, Pm n g ∧ Rsp n g bs) {q : List Int} (hq : Gen bs.length (S.map (actP n bs)) q) : ∃ p, Gen n S p ∧ q = actP n bs p := by
  induction hq with
  | one => exact ⟨_, .one, (actP_idn h).symm⟩
  | mul _ hg ih =>
    obtain ⟨p, h1, rfl⟩ := ih
    obtain ⟨g, hm, rfl⟩ := List.mem_map.1 hg
    obtain ⟨k1, k2⟩ := hS _ hm
    obtain ⟨j1, j2, _⟩ := gen_act h hS h1
    exact ⟨Go.Pm.comp p g, h1.mul hm, (actP_comp h j1 k1 j2 k2).symm⟩
/-- Rows of one size over the values of a map. -/
theorem fib_len {α β : Type} [DecidableEq β] (φ : α → β) (k : Nat) : ∀ (L' : List β) (L : List α), L'.Nodup → (∀ x ∈ L, φ x ∈ L') → (∀ y ∈ L', L.countP (fun x => decide (φ x = y)) = k) → L.length = L'.length * k
  | [], L, _, h, _ => by
    cases L with
    | nil => simp
    | cons x _ => cases h x List.mem_cons_self
  | y :: L', L, nd, h, hk => by
    have nd' := List.nodup_cons.1 nd
    have h1 := List.length_eq_countP_add_countP (fun x => decide (φ x = y)) (l := L)
    have ih := fib_len φ k L' (L.filter fun x => decide (¬ decide (φ x = y) = true)) nd'.2 (fun x hx => by
      obtain ⟨m, hx⟩ := List.mem_filter.1 hx
      rcases List.mem_cons.1 (h x m) with e | e
      · simp [e] at hx
      · exact e) (fun z hz => by
      rw [List.countP_filter, ← hk z (List.mem_cons_of_mem _ hz)]
      refine List.countP_congr fun x _ => ?_
      simp only [Bool.and_eq_true, decide_eq_true_eq]
      exact ⟨fun h => h.1, fun e => ⟨e, fun e2 => nd'.1 (by rw [← e2, e]; exact hz)⟩⟩)
    rw [← List.countP_eq_length_filter] at ih
    rw [h1, hk y List.mem_cons_self, ih, List.length_cons, Nat.add_mul, Nat.one_mul, Nat.add_comm]
theorem ordG_act (h : IsPart n bs) (hS : ∀ g ∈ S, Pm n g ∧ Rsp n g bs) : ordG bs.length (S.map (actP n bs)) ∣ ordG n S := by
  have hS1 : ∀ g ∈ S, Pm n g := fun g hg => (hS g hg).1
  have hS2 : ∀ g ∈ S.map (actP n bs), Pm bs.length g := fun g hg => by
    obtain ⟨g, hm, rfl⟩ := List.mem_map.1 hg
    exact actP_pm h (hS g hm).1 (hS g hm).2
  obtain ⟨L, nd, e, hL⟩ := ordG_list hS1
  obtain ⟨L', nd', e', hL'⟩ := ordG_list hS2
  have hle : ∀ p0, Gen n S p0 → ∀ y z, (∀ g, Gen n S g → actP n bs g = y → actP n bs (Go.Pm.comp g p0) = z) → (L.filter fun x => decide (actP n bs x = y)).length ≤ (L.filter fun x => decide (actP n bs x = z)).length := fun p0 h0 y z hyz => by
    have := Go.Plain.nodup_le (L.filter fun x => decide (actP n bs x = z)) ((L.filter fun x => decide (actP n bs x = y)).map fun g => Go.Pm.comp g p0) (List.pairwise_map.2 ((nd.filter _).imp_of_mem fun {a b} ha hb hne e => hne (by
      have ga := (hL a).1 (List.mem_filter.1 ha).1
      have gb := (hL b).1 (List.mem_filter.1 hb).1
      exact (ga.pm hS1).right_inj (gb.pm hS1) (h0.pm hS1) e))) (fun x hx => by
      obtain ⟨g, hg, rfl⟩ := List.mem_map.1 hx
      obtain ⟨m, hg⟩ := List.mem_filter.1 hg
      have gg := (hL g).1 m
      exact List.mem_filter.2 ⟨(hL _).2 (gg.prod hS1 h0), decide_eq_true (hyz g gg (of_decide_eq_true hg))⟩)
    rwa [List.length_map] at this
  refine ⟨L.countP fun x => decide (actP n bs x = Go.Pm.idn bs.length), ?_⟩
  rw [← e, ← e']
  refine fib_len (actP n bs) _ L' L nd' (fun x hx => (hL' _).2 (gen_act h hS ((hL x).1 hx)).2.2) fun y hy => ?_
  obtain ⟨p0, h0, rfl⟩ := act_gen h hS ((hL' y).1 hy)
  obtain ⟨j1, j2, _⟩ := gen_act h hS h0
  have hi := Gen.inv hS1 h0
  obtain ⟨i1, i2, _⟩ := gen_act h hS hi
  rw [List.countP_eq_length_filter, List.countP_eq_length_filter]
  refine Nat.le_antisymm (hle (invp p0) hi _ _ fun g hg eg => ?_) (hle p0 h0 _ _ fun g hg eg => ?_)
  · obtain ⟨k1, k2, _⟩ := gen_act h hS hg
    rw [actP_comp h k1 i1 k2 i2, eg, ← actP_comp h j1 i1 j2 i2, j1.comp_inv, actP_idn h]
  · obtain ⟨k1, k2, _⟩ := gen_act h hS hg
    rw [actP_comp h k1 j1 k2 j2, eg, (actP_pm h j1 j2).idn_comp]
/-- Rows of k different points. -/
def enumK (n : Nat) : Nat → List (List Nat)
  | 0 => [[]]
  | k + 1 => (enumK n k).flatMap fun l => ((List.range n).filter fun x => decide (x ∉ l)).map (· :: l)
theorem flatMap_le {α β : Type} (f : α → List β) (m : Nat) : ∀ L : List α, (∀ l ∈ L, (f l).length ≤ m) → (L.flatMap f).length ≤ L.length * m
  | [], _ => by simp
  | a :: L, h => by
    have h1 := flatMap_le f m L fun l hl => h l (List.mem_cons_of_mem _ hl)
    have h2 := h a List.mem_cons_self
    rw [List.flatMap_cons, List.length_append, List.length_cons, Nat.add_mul]
    omega
theorem enumK_prop (n : Nat) : ∀ k l, l ∈ enumK n k → l.length = k ∧ l.Nodup ∧ ∀ x ∈ l, x < n
  | 0, l, h => by
    rw [List.mem_singleton.1 h]; exact ⟨rfl, List.nodup_nil, fun x hx => by cases hx⟩
  | k + 1, l, h => by
    obtain ⟨a, ha, h⟩ := List.mem_flatMap.1 h
    obtain ⟨x, hx, rfl⟩ := List.mem_map.1 h
    obtain ⟨h1, h2, h3⟩ := enumK_prop n k a ha
    obtain ⟨k1, k2⟩ := List.mem_filter.1 hx
    refine ⟨by rw [List.length_cons, h1], List.nodup_cons.2 ⟨of_decide_eq_true k2, h2⟩, fun y hy => ?_⟩
    rcases List.mem_cons.1 hy with rfl | hy
    · exact List.mem_range.1 k1
    · exact h3 y hy
theorem enumK_mem (n : Nat) : ∀ l : List Nat, l.Nodup → (∀ x ∈ l, x < n) → l ∈ enumK n l.length
  | [], _, _ => List.mem_singleton.2 rfl
  | a :: l, nd, h => by
    have nd' := List.nodup_cons.1 nd
    refine List.mem_flatMap.2 ⟨l, enumK_mem n l nd'.2 fun x hx => h x (List.mem_cons_of_mem _ hx), List.mem_map.2 ⟨a, List.mem_filter.2 ⟨List.mem_range.2 (h a List.mem_cons_self), decide_eq_true nd'.1⟩, rfl⟩⟩
theorem enumK_len (n : Nat) : ∀ k m, k + m = n → (enumK n k).length * fact m ≤ fact n
  | 0, m, h => by
    obtain rfl : m = n := by omega
    show 1 * fact m ≤ fact m
    omega
  | k + 1, m, h => by
    have ih := enumK_len n k (m + 1) (by omega)
    have h1 : (enumK n (k + 1)).length ≤ (enumK n k).length * (m + 1) := flatMap_le _ _ _ fun l hl => by
      obtain ⟨h1, h2, h3⟩ := enumK_prop n k l hl
      rw [List.length_map, ← List.countP_eq_length_filter]
      have h4 := List.length_eq_countP_add_countP (fun x => decide (x ∈ l)) (l := List.range n)
      have h5 := Go.Plain.nodup_le ((List.range n).filter fun x => decide (x ∈ l)) l h2 fun x hx => List.mem_filter.2 ⟨List.mem_range.2 (h3 x hx), decide_eq_true hx⟩
      rw [← List.countP_eq_length_filter] at h5
      rw [List.length_range] at h4
      have h6 : (List.range n).countP (fun x => decide (¬ decide (x ∈ l) = true)) = (List.range n).countP fun x => decide (x ∉ l) := List.countP_congr fun x _ => by simp
      omega
    calc (enumK n (k + 1)).length * fact m ≤ ((enumK n k).length * (m + 1)) * fact m := Nat.mul_le_mul_right _ h1
      _ = (enumK n k).length * fact (m + 1) := by rw [Nat.mul_assoc]; rfl
      _ ≤ fact n := ih
theorem ordG_le {n : Nat} {S : List (List Int)} (hS : ∀ g ∈ S, Pm n g) (hn : n ≤ 20) : ordG n S ≤ 2432902008176640000 := by
  obtain ⟨L, nd, e, hL⟩ := ordG_list hS
  have hpm : ∀ p ∈ L, Pm n p := fun p hp => ((hL p).1 hp).pm hS
  have h1 := Go.Plain.nodup_le (enumK n n) (L.map fun p => p.map Int.toNat) (List.pairwise_map.2 (nd.imp_of_mem fun {a b} ha hb hne e => hne ((hpm a ha).ext_img (hpm b hb) fun i hi => by
    have := congrArg (fun l : List Nat => l.getD i 0) e
    have la := (hpm a ha).1
    have lb := (hpm b hb).1
    simpa [Pm.img, List.getD_eq_getElem?_getD, la, lb, hi] using this))) (fun x hx => by
    obtain ⟨p, hp, rfl⟩ := List.mem_map.1 hx
    have hp := hpm p hp
    have hg : ∀ i (hi : i < p.length), (p[i]).toNat = img p i := fun i hi => by unfold Pm.img; rw [List.getD_eq_getElem?_getD, List.getElem?_eq_getElem hi]; rfl
    have := enumK_mem n (p.map Int.toNat) (List.pairwise_map.2 (List.pairwise_iff_getElem.2 fun i j hi hj hij => by
      rw [hg i hi, hg j hj]
      intro e
      have := hp.inj (by rw [← hp.1]; exact hi) (by rw [← hp.1]; exact hj) e
      omega)) fun x hx => by
        obtain ⟨v, hv, rfl⟩ := List.mem_map.1 hx
        obtain ⟨i, hi, rfl⟩ := List.getElem_of_mem hv
        rw [hg i hi]; exact hp.img_lt (by rw [← hp.1]; exact hi)
    rwa [List.length_map, hp.1] at this)
  rw [List.length_map, e] at h1
  have h2 := enumK_len n n 0 (by omega)
  have h3 := fact_mono hn
  rw [fact_20] at h3
  have h4 : fact 0 = 1 := rfl
  rw [h4] at h2
  omega
theorem ordG_pos {n : Nat} {S : List (List Int)} (hS : ∀ g ∈ S, Pm n g) : 1 ≤ ordG n S := by
  obtain ⟨L, nd, e, hL⟩ := ordG_list hS
  rw [← e]
  exact List.length_pos_of_mem ((hL _).2 .one)
end
end Go.Pm
end
/- Stabilizer chains: how they lie, and what sifting returns. -/
section
namespace Go.Proofs.Ytngpacdhpblpbaa
open Go.Av
set_option linter.unusedSimpArgs false
set_option linter.unusedVariables false
attribute [local irreducible] AWP CallG Ob Br BrP Go.Av.Sub endQ AOps OpV AC thenA blkA opsVC opVC withA withArgs opsQ opQ CallQ withA2 withArgs2
open Go.Pm (Pm comp invp idn img Ch)

def tF (T : Nat → Option (List Int)) (k : Nat) : AV := match T k with | none => .v (.slice none 0 0) | some p => ints p
theorem tF_none {T : Nat → Option (List Int)} {k : Nat} (h : T k = none) : tF T k = .v (.slice none 0 0) := by unfold tF; rw [h]
theorem tF_some {T : Nat → Option (List Int)} {k : Nat} {p : List Int} (h : T k = some p) : tF T k = .list false 1 p.length (cM iv 0 p) := by unfold tF; rw [h]; rfl
/-- The rows of representatives and the rows of generators, only read. -/
def rowF (n : Nat) (C : Ch) (i : Nat) : AV := .list false 1 n (tF (C.T i))
def genF (C : Ch) (i : Nat) : AV := .list false 1 (C.S i).length (cM ints [] (C.S i))
theorem rowF_app (n : Nat) (C : Ch) (i : Nat) : rowF n C i = .list false 1 n (tF (C.T i)) := rfl
/-- A chain, only read: of the program, and of the reference. -/
def chI (n : Nat) (C : Ch) : AV := .ptr 3 (vecF [.v (.int .i64 n), .list false 1 n (genF C), .list false 1 n (rowF n C)])
def chS (n : Nat) (C : Ch) : AV := .ptr 3 (vecF [.v (.int .i64 n), .list false 1 n (rowF n C), .list false 1 n (genF C)])

theorem nil_no {t : List Int} {n : Nat} (h : t.length = n) (h0 : 0 < n) : (if (false || decide (0 < t.length)) = true then some false else none) = some false := by
  rw [if_pos (by simp; omega)]
theorem has_ok (n : Nat) (C : Ch) (i : Nat) (p : List Int) (hn : n ≤ 20) (hi : i ≤ n) (hw : C.WF n) (hp : Pm n p) : AC Try.prog 75 [chI n C, .v (.int .i64 (i)), ints p] Hp.emp (fun _ => false) (retV (.v (.bool (C.has (n - i) i p)))) := by
  unfold chI
  refine ac_of_awp (N := ⟨_, fun _ => false, fun _ _ => rfl⟩) Try.func75 rfl (by kernel_rfl) Try.ntmps75 (by simp) ?_
  simp only [argsFr, List.zipIdx_cons, List.zipIdx_nil, go_sem]
  repeat' (first | refine awp_seqK fun K hK => ?_ | (refine awp_regionK 4295000519 rfl ?_; simp only [List.map_cons, List.map_nil]; simp (maxSteps := 1000000) (dsimp := false) (implicitDefEqProofs := false) (disch := omega) only [wrap64, go_sem]) | (refine awp_regionQK 4295000519 (by kernel_rfl) (by kernel_rfl) (by kernel_rfl) ?_; simp only [List.map_cons, List.map_nil]; simp (maxSteps := 1000000) (dsimp := false) (implicitDefEqProofs := false) (disch := omega) only [wrap64, go_sem]) | refine awp_block ?_ | (refine awp_skip ?_; simp only [go_sem]) | (refine awp_exit ?_; simp only [go_sem]) | (refine awp_ret ?_; try simp only [go_sem]) | (refine awp_condP rfl ?_; try simp only [go_sem]) | (refine BrP.mk (fun h => ?_) (fun h => ?_) <;> try simp (dsimp := false) (disch := omega) only [wrap64]) | (refine Br.mk (fun h => ?_) (fun h => ?_) <;> try simp (dsimp := false) (disch := omega) only [wrap64]) | refine Ob.mk (by first | omega | (intro _ _; rfl) | trivial | (intros; trivial) | assumption | (intro i hi; have h0 : i = 0 := (by omega); subst h0; first | rfl | trivial) | (intro i hi; have h0 : i = 0 ∨ i = 1 := (by omega); rcases h0 with rfl | rfl <;> rfl) | (intro i hi; have h0 : i = 0 ∨ i = 1 ∨ i = 2 := (by omega); rcases h0 with rfl | rfl | rfl <;> rfl)) ?_ | apply_assumption -exfalso -symm)
  all_goals (first | (show endQ _ _ _ _ _ _ _; (repeat (rename (∀ (A : Fr) (H : Hp), AWP _ _ _ _ A H → _) => hK; clear hK)); (repeat (rename (Fr → Hp → Prop) => K; clear K))) | (show Exists _; (repeat (rename (∀ (A : Fr) (H : Hp), AWP _ _ _ _ A H → _) => hK; clear hK)); (repeat (rename (Fr → Hp → Prop) => K; clear K))) | skip)
  refine awp_loop (ι := Nat × List Int) (fun x => [(7, .v (.int .i64 (x.1))), (2, .list false 1 (x.2).length (cM iv 0 (x.2))), (0, chI n C)]) (fun x => Hp.emp) (fun x => x.1 ≤ n ∧ Pm n x.2 ∧ C.has (n - i) i p = C.has (n - x.1) x.1 x.2) (fun x => n - x.1) (i, p) ?_ (Sub.toL (by simp only [go_sem] <;> first | trivial | (simp only [Option.some.injEq, AV.v.injEq, AV.own.injEq, AV.list.injEq, Value.int.injEq, Value.bool.injEq, true_and, and_true]; first | omega | (simp [chI]; done)) | (simp [chI]; done) | (simp [chI]; omega)) (by (repeat' (first | exact Hp.le_emp _ | exact Hp.le_refl _ | refine Hp.le_upd ?_ ?_)); all_goals (first | rfl | (simp only [go_sem]; first | rfl | (refine cellsE ?_ ?_ <;> (simp [chI])) | (simp [chI]))))) ?_
  · exact ⟨hi, hp, rfl⟩
  rintro ⟨k, q⟩ ⟨hk, hq, he⟩
  dsimp only at hk hq he ⊢
  unfold chI
  have hql := hq.1
  have hlt : k < n → 0 ≤ q.getD k 0 ∧ q.getD k 0 < n := hq.2.1 k
  have hstep : k < n → C.has (n - k) k q = match C.T k (img q k) with | none => false | some t => C.has (n - (k + 1)) (k + 1) (comp q (invp t)) := fun h => by
    rw [show n - k = (n - (k + 1)) + 1 by omega]; rfl
  cases hT : C.T k (img q k) with
  | none =>
    have hTF : tF (C.T k) (q.getD k 0).toNat = .v (.slice none 0 0) := tF_none hT
    repeat' (first | refine awp_seqK fun K hK => ?_ | (refine awp_regionK 4295000519 rfl ?_; simp only [List.map_cons, List.map_nil]; simp (maxSteps := 1000000) (dsimp := false) (implicitDefEqProofs := false) (disch := omega) only [wrap64, go_sem, rowF_app, hTF]) | (refine awp_regionQK 4295000519 (by kernel_rfl) (by kernel_rfl) (by kernel_rfl) ?_; simp only [List.map_cons, List.map_nil]; simp (maxSteps := 1000000) (dsimp := false) (implicitDefEqProofs := false) (disch := omega) only [wrap64, go_sem, rowF_app, hTF]) | refine awp_block ?_ | (refine awp_skip ?_; simp only [go_sem, rowF_app, hTF]) | (refine awp_exit ?_; simp only [go_sem, rowF_app, hTF]) | (refine awp_ret ?_; try simp only [go_sem, rowF_app, hTF]) | (refine awp_condP rfl ?_; try simp only [go_sem, rowF_app, hTF]) | (refine BrP.mk (fun h => ?_) (fun h => ?_) <;> try simp (dsimp := false) (disch := omega) only [wrap64]) | (refine Br.mk (fun h => ?_) (fun h => ?_) <;> try simp (dsimp := false) (disch := omega) only [wrap64]) | refine Ob.mk (by first | omega | (intro _ _; rfl) | trivial | (intros; trivial) | assumption | (intro i hi; have h0 : i = 0 := (by omega); subst h0; first | rfl | trivial) | (intro i hi; have h0 : i = 0 ∨ i = 1 := (by omega); rcases h0 with rfl | rfl <;> rfl) | (intro i hi; have h0 : i = 0 ∨ i = 1 ∨ i = 2 := (by omega); rcases h0 with rfl | rfl | rfl <;> rfl)) ?_ | apply_assumption -exfalso -symm)
    all_goals (first | (show endQ _ _ _ _ _ _ _; (repeat (rename (∀ (A : Fr) (H : Hp), AWP _ _ _ _ A H → _) => hK; clear hK)); (repeat (rename (Fr → Hp → Prop) => K; clear K))) | (show Exists _; (repeat (rename (∀ (A : Fr) (H : Hp), AWP _ _ _ _ A H → _) => hK; clear hK)); (repeat (rename (Fr → Hp → Prop) => K; clear K))) | skip)
    · exact end_retV' rfl rfl (by rw [he, hstep (by omega), hT])
    · exact end_retV' rfl rfl (by rw [he, show n - k = 0 by omega]; rfl)
  | some t =>
    have hTF : tF (C.T k) (q.getD k 0).toNat = .list false 1 t.length (cM iv 0 t) := tF_some hT
    have ht : k < n → Pm n t := fun h => (hw.t1 k _ t h hT).1
    have htl : k < n → t.length = n := fun h => (ht h).1
    have hnl := fun h : k < n => nil_no (htl h) (by omega)
    repeat' (first | refine awp_seqK fun K hK => ?_ | (refine awp_regionK 4295000519 rfl ?_; simp only [List.map_cons, List.map_nil]; simp (maxSteps := 1000000) (dsimp := false) (implicitDefEqProofs := false) (disch := omega) only [wrap64, go_sem, rowF_app, hTF, hnl]) | (refine awp_regionQK 4295000519 (by kernel_rfl) (by kernel_rfl) (by kernel_rfl) ?_; simp only [List.map_cons, List.map_nil]; simp (maxSteps := 1000000) (dsimp := false) (implicitDefEqProofs := false) (disch := omega) only [wrap64, go_sem, rowF_app, hTF, hnl]) | refine awp_block ?_ | (refine awp_skip ?_; simp only [go_sem, rowF_app, hTF, hnl]) | (refine awp_exit ?_; simp only [go_sem, rowF_app, hTF, hnl]) | (refine awp_ret ?_; try simp only [go_sem, rowF_app, hTF, hnl]) | (refine awp_condP rfl ?_; try simp only [go_sem, rowF_app, hTF, hnl]) | (refine BrP.mk (fun h => ?_) (fun h => ?_) <;> try simp (dsimp := false) (disch := omega) only [wrap64]) | (refine Br.mk (fun h => ?_) (fun h => ?_) <;> try simp (dsimp := false) (disch := omega) only [wrap64]) | refine Ob.mk (by first | omega | (intro _ _; rfl) | trivial | (intros; trivial) | assumption | (intro i hi; have h0 : i = 0 := (by omega); subst h0; first | rfl | trivial) | (intro i hi; have h0 : i = 0 ∨ i = 1 := (by omega); rcases h0 with rfl | rfl <;> rfl) | (intro i hi; have h0 : i = 0 ∨ i = 1 ∨ i = 2 := (by omega); rcases h0 with rfl | rfl | rfl <;> rfl)) ?_ | ((first | ((first | refine atF (f := 139) ?_ | refine atQ (f := 139) ?_); (first | (refine cFI (hac := implInverse_ok t (by omega) (by rw [htl (by omega)]; exact ht (by omega)) 9) (hK := ?_)) | (refine cQI (hac := implInverse_ok t (by omega) (by rw [htl (by omega)]; exact ht (by omega)) 9) (hK := ?_)))) | ((first | refine atF (f := 132) ?_ | refine atQ (f := 132) ?_); (first | (refine cFI (hac := implCompose_ok q (invp t) (by omega) (pm_lt hq (ht (by omega)).inv) 9) (hK := ?_)) | (refine cQI (hac := implCompose_ok q (invp t) (by omega) (pm_lt hq (ht (by omega)).inv) 9) (hK := ?_))))); simp (maxSteps := 1000000) (dsimp := false) (implicitDefEqProofs := false) (disch := omega) only [wrap64, go_sem, rowF_app, hTF, hnl]) | apply_assumption -exfalso -symm)
    all_goals (first | (show endQ _ _ _ _ _ _ _; (repeat (rename (∀ (A : Fr) (H : Hp), AWP _ _ _ _ A H → _) => hK; clear hK)); (repeat (rename (Fr → Hp → Prop) => K; clear K))) | (show Exists _; (repeat (rename (∀ (A : Fr) (H : Hp), AWP _ _ _ _ A H → _) => hK; clear hK)); (repeat (rename (Fr → Hp → Prop) => K; clear K))) | skip)
    · refine ⟨(k + 1, comp q (invp t)), ⟨by dsimp only; omega, hq.comp (ht (by omega)).inv, by rw [he, hstep (by omega), hT]⟩, by dsimp only; omega, Sub.toL (by simp only [go_sem] <;> first | trivial | (simp only [Option.some.injEq, AV.v.injEq, AV.own.injEq, AV.list.injEq, Value.int.injEq, Value.bool.injEq, true_and, and_true]; first | omega | (simp; done)) | (simp; done) | (simp; omega)) (Hp.le_emp _)⟩
    · exact end_retV' rfl rfl (by rw [he, show n - k = 0 by omega]; rfl)

/-- The points of an orbit below m, in order. -/
def orb (T : Nat → Option (List Int)) (m : Nat) : List Int := ((List.range m).filter fun y => (T y).isSome).map fun y : Nat => (y : Int)
theorem orb_succ (T : Nat → Option (List Int)) (m : Nat) : orb T (m + 1) = orb T m ++ (if (T m).isSome then [(m : Int)] else []) := by
  unfold orb
  rw [List.range_succ, List.filter_append, List.map_append]
  congr 1
  cases h : (T m).isSome <;> simp [h]
theorem orb_length (T : Nat → Option (List Int)) (m : Nat) : (orb T m).length ≤ m := by
  unfold orb
  rw [List.length_map]
  exact Nat.le_trans (List.length_filter_le _ _) (by simp)
theorem orb_mem {T : Nat → Option (List Int)} {m : Nat} {x : Int} : x ∈ orb T m ↔ ∃ y : Nat, y < m ∧ (T y).isSome = true ∧ x = (y : Int) := by
  unfold orb
  simp only [List.mem_map, List.mem_filter, List.mem_range]
  constructor
  · rintro ⟨y, ⟨h1, h2⟩, rfl⟩; exact ⟨y, h1, h2, rfl⟩
  · rintro ⟨y, h1, h2, rfl⟩; exact ⟨y, ⟨h1, h2⟩, rfl⟩

theorem orbitOf_ok (n : Nat) (T : Nat → Option (List Int)) (hn : n ≤ 20) (hT : ∀ y t, y < n → T y = some t → 0 < t.length) (d : Nat) : AC Try.prog 175 [.list false 1 n (tF T)] Hp.emp (fun _ => false) (retI d (orb T n)) := by
  refine ac_of_awp (N := ⟨_, fun _ => false, fun _ _ => rfl⟩) Try.func175 rfl (by kernel_rfl) Try.ntmps175 (by simp) ?_
  simp only [argsFr, List.zipIdx_cons, List.zipIdx_nil, go_sem]
  repeat' (first | refine awp_seqK fun K hK => ?_ | (refine awp_regionK 17405 rfl ?_; simp only [List.map_cons, List.map_nil]; simp (maxSteps := 1000000) (dsimp := false) (implicitDefEqProofs := false) (disch := omega) only [wrap64, go_sem]) | (refine awp_regionQK 17405 (by kernel_rfl) (by kernel_rfl) (by kernel_rfl) ?_; simp only [List.map_cons, List.map_nil]; simp (maxSteps := 1000000) (dsimp := false) (implicitDefEqProofs := false) (disch := omega) only [wrap64, go_sem]) | refine awp_block ?_ | (refine awp_skip ?_; simp only [go_sem]) | (refine awp_exit ?_; simp only [go_sem]) | (refine awp_ret ?_; try simp only [go_sem]) | (refine awp_condP rfl ?_; try simp only [go_sem]) | (refine BrP.mk (fun h => ?_) (fun h => ?_) <;> try simp (dsimp := false) (disch := omega) only [wrap64]) | (refine Br.mk (fun h => ?_) (fun h => ?_) <;> try simp (dsimp := false) (disch := omega) only [wrap64]) | refine Ob.mk (by first | omega | (intro _ _; rfl) | trivial | (intros; trivial) | assumption | (intro i hi; have h0 : i = 0 := (by omega); subst h0; first | rfl | trivial) | (intro i hi; have h0 : i = 0 ∨ i = 1 := (by omega); rcases h0 with rfl | rfl <;> rfl) | (intro i hi; have h0 : i = 0 ∨ i = 1 ∨ i = 2 := (by omega); rcases h0 with rfl | rfl | rfl <;> rfl)) ?_ | apply_assumption -exfalso -symm)
  all_goals (first | (show endQ _ _ _ _ _ _ _; (repeat (rename (∀ (A : Fr) (H : Hp), AWP _ _ _ _ A H → _) => hK; clear hK)); (repeat (rename (Fr → Hp → Prop) => K; clear K))) | (show Exists _; (repeat (rename (∀ (A : Fr) (H : Hp), AWP _ _ _ _ A H → _) => hK; clear hK)); (repeat (rename (Fr → Hp → Prop) => K; clear K))) | skip)
  refine awp_loop (ι := Nat) (fun k => [(8, .v (.int .i64 (k))), (7, .v (.int .i64 (n))), (6, .list false 1 n (tF T)), (3, .own 30 0 1 (orb T k).length)]) (fun k => Hp.emp.upd 30 (.cells (orb T k).length (cM iv 0 (orb T k)))) (fun k => k ≤ n) (fun k => n - k) 0 ?_ (Sub.trans (Sub.nil (i := 3) 30 1 (cM iv 0 []) rfl rfl) (Sub.toL (by simp only [go_sem] <;> first | trivial | (simp only [Option.some.injEq, AV.v.injEq, AV.own.injEq, AV.list.injEq, Value.int.injEq, Value.bool.injEq, true_and, and_true]; first | omega | (simp [orb]; done)) | (simp [orb]; done) | (simp [orb]; omega)) (by (repeat' (first | exact Hp.le_emp _ | exact Hp.le_refl _ | refine Hp.le_upd ?_ ?_)); all_goals (first | rfl | (simp only [go_sem]; first | rfl | (refine cellsE ?_ ?_ <;> (simp [orb])) | (simp [orb])))))) ?_
  · exact Nat.zero_le _
  intro k hk
  have hol := orb_length T k
  have hos := orb_succ T k
  cases hTk : T k with
  | none =>
    have hTF : tF T k = .v (.slice none 0 0) := tF_none hTk
    rw [hTk] at hos
    simp only [Option.isSome_none, Bool.false_eq_true, if_false, List.append_nil] at hos
    repeat' (first | refine awp_seqK fun K hK => ?_ | (refine awp_regionK 17405 rfl ?_; simp only [List.map_cons, List.map_nil]; simp (maxSteps := 1000000) (dsimp := false) (implicitDefEqProofs := false) (disch := omega) only [wrap64, go_sem, hTF]) | (refine awp_regionQK 17405 (by kernel_rfl) (by kernel_rfl) (by kernel_rfl) ?_; simp only [List.map_cons, List.map_nil]; simp (maxSteps := 1000000) (dsimp := false) (implicitDefEqProofs := false) (disch := omega) only [wrap64, go_sem, hTF]) | refine awp_block ?_ | (refine awp_skip ?_; simp only [go_sem, hTF]) | (refine awp_exit ?_; simp only [go_sem, hTF]) | (refine awp_ret ?_; try simp only [go_sem, hTF]) | (refine awp_condP rfl ?_; try simp only [go_sem, hTF]) | (refine BrP.mk (fun h => ?_) (fun h => ?_) <;> try simp (dsimp := false) (disch := omega) only [wrap64]) | (refine Br.mk (fun h => ?_) (fun h => ?_) <;> try simp (dsimp := false) (disch := omega) only [wrap64]) | refine Ob.mk (by first | omega | (intro _ _; rfl) | trivial | (intros; trivial) | assumption | (intro i hi; have h0 : i = 0 := (by omega); subst h0; first | rfl | trivial) | (intro i hi; have h0 : i = 0 ∨ i = 1 := (by omega); rcases h0 with rfl | rfl <;> rfl) | (intro i hi; have h0 : i = 0 ∨ i = 1 ∨ i = 2 := (by omega); rcases h0 with rfl | rfl | rfl <;> rfl)) ?_ | apply_assumption -exfalso -symm)
    all_goals (first | (show endQ _ _ _ _ _ _ _; (repeat (rename (∀ (A : Fr) (H : Hp), AWP _ _ _ _ A H → _) => hK; clear hK)); (repeat (rename (Fr → Hp → Prop) => K; clear K))) | (show Exists _; (repeat (rename (∀ (A : Fr) (H : Hp), AWP _ _ _ _ A H → _) => hK; clear hK)); (repeat (rename (Fr → Hp → Prop) => K; clear K))) | skip)
    · refine ⟨k + 1, ?_, ?_, Sub.toL (by simp only [go_sem] <;> first | trivial | (simp only [Option.some.injEq, AV.v.injEq, AV.own.injEq, AV.list.injEq, Value.int.injEq, Value.bool.injEq, true_and, and_true]; first | omega | (simp [hos, List.length_append]; done)) | (simp [hos, List.length_append]; done) | (simp [hos, List.length_append]; omega)) (by (repeat' (first | exact Hp.le_emp _ | exact Hp.le_refl _ | refine Hp.le_upd ?_ ?_)); all_goals (first | rfl | (simp only [go_sem]; first | rfl | (refine cellsE ?_ ?_ <;> (first | omega | (rw [hos]; simp) | (rw [hos]))) | (first | omega | (rw [hos]; simp) | (rw [hos])))))⟩
      all_goals omega
    · have e : k = n := by omega
      subst e
      exact end_retI' rfl rfl rfl rfl rfl rfl
  | some t =>
    have hTF : tF T k = .list false 1 t.length (cM iv 0 t) := tF_some hTk
    rw [hTk] at hos
    simp only [Option.isSome_some, if_true] at hos
    have hnl := fun h : k < n => nil_no (n := t.length) rfl (hT k t h hTk)
    repeat' (first | refine awp_seqK fun K hK => ?_ | (refine awp_regionK 17405 rfl ?_; simp only [List.map_cons, List.map_nil]; simp (maxSteps := 1000000) (dsimp := false) (implicitDefEqProofs := false) (disch := omega) only [wrap64, go_sem, hTF, hnl]) | (refine awp_regionQK 17405 (by kernel_rfl) (by kernel_rfl) (by kernel_rfl) ?_; simp only [List.map_cons, List.map_nil]; simp (maxSteps := 1000000) (dsimp := false) (implicitDefEqProofs := false) (disch := omega) only [wrap64, go_sem, hTF, hnl]) | refine awp_block ?_ | (refine awp_skip ?_; simp only [go_sem, hTF, hnl]) | (refine awp_exit ?_; simp only [go_sem, hTF, hnl]) | (refine awp_ret ?_; try simp only [go_sem, hTF, hnl]) | (refine awp_condP rfl ?_; try simp only [go_sem, hTF, hnl]) | (refine BrP.mk (fun h => ?_) (fun h => ?_) <;> try simp (dsimp := false) (disch := omega) only [wrap64]) | (refine Br.mk (fun h => ?_) (fun h => ?_) <;> try simp (dsimp := false) (disch := omega) only [wrap64]) | refine Ob.mk (by first | omega | (intro _ _; rfl) | trivial | (intros; trivial) | assumption | (intro i hi; have h0 : i = 0 := (by omega); subst h0; first | rfl | trivial) | (intro i hi; have h0 : i = 0 ∨ i = 1 := (by omega); rcases h0 with rfl | rfl <;> rfl) | (intro i hi; have h0 : i = 0 ∨ i = 1 ∨ i = 2 := (by omega); rcases h0 with rfl | rfl | rfl <;> rfl)) ?_ | apply_assumption -exfalso -symm)
    all_goals (first | (show endQ _ _ _ _ _ _ _; (repeat (rename (∀ (A : Fr) (H : Hp), AWP _ _ _ _ A H → _) => hK; clear hK)); (repeat (rename (Fr → Hp → Prop) => K; clear K))) | (show Exists _; (repeat (rename (∀ (A : Fr) (H : Hp), AWP _ _ _ _ A H → _) => hK; clear hK)); (repeat (rename (Fr → Hp → Prop) => K; clear K))) | skip)
    · refine ⟨k + 1, ?_, ?_, Sub.toL (by simp only [go_sem] <;> first | trivial | (simp only [Option.some.injEq, AV.v.injEq, AV.own.injEq, AV.list.injEq, Value.int.injEq, Value.bool.injEq, true_and, and_true]; first | omega | (simp [hos, List.length_append]; done)) | (simp [hos, List.length_append]; done) | (simp [hos, List.length_append]; omega)) (by (repeat' (first | exact Hp.le_emp _ | exact Hp.le_refl _ | refine Hp.le_upd ?_ ?_)); all_goals (first | rfl | (simp only [go_sem]; first | rfl | (refine cellsE ?_ ?_ <;> (first | omega | (rw [hos]; simp) | (rw [hos]))) | (first | omega | (rw [hos]; simp) | (rw [hos])))))⟩
      all_goals omega
      all_goals omega
    · have e : k = n := by omega
      subst e
      exact end_retI' rfl rfl rfl rfl rfl rfl

/-- What sifting leaves, and the level at which it ends. -/
def sif (C : Ch) : Nat → Nat → List Int → List Int × Nat
  | 0, i, p => (p, i)
  | k + 1, i, p => match C.T i (img p i) with
    | none => (p, i)
    | some t => sif C k (i + 1) (comp p (invp t))
theorem sif_has (C : Ch) : ∀ (k i : Nat) (p : List Int), (sif C k i p).2 ≤ i + k ∧ ((sif C k i p).2 = i + k ↔ C.has k i p = true)
  | 0, i, p => by simp [sif, Ch.has]
  | k + 1, i, p => by
    unfold sif Ch.has
    cases h : C.T i (img p i) with
    | none => simp
    | some t =>
      have := sif_has C k (i + 1) (comp p (invp t))
      dsimp only
      rw [show i + (k + 1) = i + 1 + k by omega]
      exact this
theorem sift_ok (n : Nat) (C : Ch) (i : Nat) (p : List Int) (hn : n ≤ 20) (hi : i ≤ n) (hw : C.WF n) (hp : Pm n p) : AC Try.prog 182 [chS n C, .v (.int .i64 (i)), ints p] Hp.emp (fun _ => false) (retV (.tup 2 (vecF [.dead, .v (.int .i64 ((sif C (n - i) i p).2))]))) := by
  unfold chS
  refine ac_of_awp (N := ⟨_, fun _ => false, fun _ _ => rfl⟩) Try.func182 rfl (by kernel_rfl) Try.ntmps182 (by simp) ?_
  simp only [argsFr, List.zipIdx_cons, List.zipIdx_nil, go_sem]
  repeat' (first | refine awp_seqK fun K hK => ?_ | (refine awp_regionK 17179935687 rfl ?_; simp only [List.map_cons, List.map_nil]; simp (maxSteps := 1000000) (dsimp := false) (implicitDefEqProofs := false) (disch := omega) only [wrap64, go_sem]) | (refine awp_regionQK 17179935687 (by kernel_rfl) (by kernel_rfl) (by kernel_rfl) ?_; simp only [List.map_cons, List.map_nil]; simp (maxSteps := 1000000) (dsimp := false) (implicitDefEqProofs := false) (disch := omega) only [wrap64, go_sem]) | refine awp_block ?_ | (refine awp_skip ?_; simp only [go_sem]) | (refine awp_exit ?_; simp only [go_sem]) | (refine awp_ret ?_; try simp only [go_sem]) | (refine awp_condP rfl ?_; try simp only [go_sem]) | (refine BrP.mk (fun h => ?_) (fun h => ?_) <;> try simp (dsimp := false) (disch := omega) only [wrap64]) | (refine Br.mk (fun h => ?_) (fun h => ?_) <;> try simp (dsimp := false) (disch := omega) only [wrap64]) | refine Ob.mk (by first | omega | (intro _ _; rfl) | trivial | (intros; trivial) | assumption | (intro i hi; have h0 : i = 0 := (by omega); subst h0; first | rfl | trivial) | (intro i hi; have h0 : i = 0 ∨ i = 1 := (by omega); rcases h0 with rfl | rfl <;> rfl) | (intro i hi; have h0 : i = 0 ∨ i = 1 ∨ i = 2 := (by omega); rcases h0 with rfl | rfl | rfl <;> rfl)) ?_ | apply_assumption -exfalso -symm)
  all_goals (first | (show endQ _ _ _ _ _ _ _; (repeat (rename (∀ (A : Fr) (H : Hp), AWP _ _ _ _ A H → _) => hK; clear hK)); (repeat (rename (Fr → Hp → Prop) => K; clear K))) | (show Exists _; (repeat (rename (∀ (A : Fr) (H : Hp), AWP _ _ _ _ A H → _) => hK; clear hK)); (repeat (rename (Fr → Hp → Prop) => K; clear K))) | skip)
  refine awp_loop (ι := Nat × List Int) (fun x => [(8, .v (.int .i64 (x.1))), (2, .list false 1 (x.2).length (cM iv 0 (x.2))), (0, chS n C)]) (fun x => Hp.emp) (fun x => x.1 ≤ n ∧ Pm n x.2 ∧ sif C (n - i) i p = sif C (n - x.1) x.1 x.2) (fun x => n - x.1) (i, p) ?_ (Sub.toL (by simp only [go_sem] <;> first | trivial | (simp only [Option.some.injEq, AV.v.injEq, AV.own.injEq, AV.list.injEq, Value.int.injEq, Value.bool.injEq, true_and, and_true]; first | omega | (simp [chS]; done)) | (simp [chS]; done) | (simp [chS]; omega)) (by (repeat' (first | exact Hp.le_emp _ | exact Hp.le_refl _ | refine Hp.le_upd ?_ ?_)); all_goals (first | rfl | (simp only [go_sem]; first | rfl | (refine cellsE ?_ ?_ <;> (simp [chS])) | (simp [chS]))))) ?_
  · exact ⟨hi, hp, rfl⟩
  rintro ⟨k, q⟩ ⟨hk, hq, he⟩
  dsimp only at hk hq he ⊢
  unfold chS
  have hql := hq.1
  have hlt : k < n → 0 ≤ q.getD k 0 ∧ q.getD k 0 < n := hq.2.1 k
  have hstep : k < n → sif C (n - k) k q = match C.T k (img q k) with | none => (q, k) | some t => sif C (n - (k + 1)) (k + 1) (comp q (invp t)) := fun h => by
    rw [show n - k = (n - (k + 1)) + 1 by omega]; rfl
  have hend : ¬ k < n → sif C (n - k) k q = (q, k) := fun h => by rw [show n - k = 0 by omega]; rfl
  cases hT : C.T k (img q k) with
  | none =>
    have hTF : tF (C.T k) (q.getD k 0).toNat = .v (.slice none 0 0) := tF_none hT
    repeat' (first | refine awp_seqK fun K hK => ?_ | (refine awp_regionK 17179935687 rfl ?_; simp only [List.map_cons, List.map_nil]; simp (maxSteps := 1000000) (dsimp := false) (implicitDefEqProofs := false) (disch := omega) only [wrap64, go_sem, rowF_app, hTF]) | (refine awp_regionQK 17179935687 (by kernel_rfl) (by kernel_rfl) (by kernel_rfl) ?_; simp only [List.map_cons, List.map_nil]; simp (maxSteps := 1000000) (dsimp := false) (implicitDefEqProofs := false) (disch := omega) only [wrap64, go_sem, rowF_app, hTF]) | refine awp_block ?_ | (refine awp_skip ?_; simp only [go_sem, rowF_app, hTF]) | (refine awp_exit ?_; simp only [go_sem, rowF_app, hTF]) | (refine awp_ret ?_; try simp only [go_sem, rowF_app, hTF]) | (refine awp_condP rfl ?_; try simp only [go_sem, rowF_app, hTF]) | (refine BrP.mk (fun h => ?_) (fun h => ?_) <;> try simp (dsimp := false) (disch := omega) only [wrap64]) | (refine Br.mk (fun h => ?_) (fun h => ?_) <;> try simp (dsimp := false) (disch := omega) only [wrap64]) | refine Ob.mk (by first | omega | (intro _ _; rfl) | trivial | (intros; trivial) | assumption | (intro i hi; have h0 : i = 0 := (by omega); subst h0; first | rfl | trivial) | (intro i hi; have h0 : i = 0 ∨ i = 1 := (by omega); rcases h0 with rfl | rfl <;> rfl) | (intro i hi; have h0 : i = 0 ∨ i = 1 ∨ i = 2 := (by omega); rcases h0 with rfl | rfl | rfl <;> rfl)) ?_ | apply_assumption -exfalso -symm)
    all_goals (first | (show endQ _ _ _ _ _ _ _; (repeat (rename (∀ (A : Fr) (H : Hp), AWP _ _ _ _ A H → _) => hK; clear hK)); (repeat (rename (Fr → Hp → Prop) => K; clear K))) | (show Exists _; (repeat (rename (∀ (A : Fr) (H : Hp), AWP _ _ _ _ A H → _) => hK; clear hK)); (repeat (rename (Fr → Hp → Prop) => K; clear K))) | skip)
    · exact end_retDV rfl (by decide) rfl (by rw [he, hstep (by omega), hT])
    · exact end_retDV rfl (by decide) rfl (by rw [he, hend (by omega)]; rw [show n = k by omega])
  | some t =>
    have hTF : tF (C.T k) (q.getD k 0).toNat = .list false 1 t.length (cM iv 0 t) := tF_some hT
    have ht : k < n → Pm n t := fun h => (hw.t1 k _ t h hT).1
    have htl : k < n → t.length = n := fun h => (ht h).1
    repeat' (first | refine awp_seqK fun K hK => ?_ | (refine awp_regionK 17179935687 rfl ?_; simp only [List.map_cons, List.map_nil]; simp (maxSteps := 1000000) (dsimp := false) (implicitDefEqProofs := false) (disch := omega) only [wrap64, go_sem, rowF_app, hTF]) | (refine awp_regionQK 17179935687 (by kernel_rfl) (by kernel_rfl) (by kernel_rfl) ?_; simp only [List.map_cons, List.map_nil]; simp (maxSteps := 1000000) (dsimp := false) (implicitDefEqProofs := false) (disch := omega) only [wrap64, go_sem, rowF_app, hTF]) | refine awp_block ?_ | (refine awp_skip ?_; simp only [go_sem, rowF_app, hTF]) | (refine awp_exit ?_; simp only [go_sem, rowF_app, hTF]) | (refine awp_ret ?_; try simp only [go_sem, rowF_app, hTF]) | (refine awp_condP rfl ?_; try simp only [go_sem, rowF_app, hTF]) | (refine BrP.mk (fun h => ?_) (fun h => ?_) <;> try simp (dsimp := false) (disch := omega) only [wrap64]) | (refine Br.mk (fun h => ?_) (fun h => ?_) <;> try simp (dsimp := false) (disch := omega) only [wrap64]) | refine Ob.mk (by first | omega | (intro _ _; rfl) | trivial | (intros; trivial) | assumption | (intro i hi; have h0 : i = 0 := (by omega); subst h0; first | rfl | trivial) | (intro i hi; have h0 : i = 0 ∨ i = 1 := (by omega); rcases h0 with rfl | rfl <;> rfl) | (intro i hi; have h0 : i = 0 ∨ i = 1 ∨ i = 2 := (by omega); rcases h0 with rfl | rfl | rfl <;> rfl)) ?_ | ((first | ((first | refine atF (f := 91) ?_ | refine atQ (f := 91) ?_); (first | (refine cFI (hac := specInverse_ok t (by omega) (by rw [htl (by omega)]; exact ht (by omega)) 9) (hK := ?_)) | (refine cQI (hac := specInverse_ok t (by omega) (by rw [htl (by omega)]; exact ht (by omega)) 9) (hK := ?_)))) | ((first | refine atF (f := 66) ?_ | refine atQ (f := 66) ?_); (first | (refine cFI (hac := specCompose_ok q (invp t) (by omega) (pm_lt hq (ht (by omega)).inv) 9) (hK := ?_)) | (refine cQI (hac := specCompose_ok q (invp t) (by omega) (pm_lt hq (ht (by omega)).inv) 9) (hK := ?_))))); simp (maxSteps := 1000000) (dsimp := false) (implicitDefEqProofs := false) (disch := omega) only [wrap64, go_sem, rowF_app, hTF]) | apply_assumption -exfalso -symm)
    all_goals (first | (show endQ _ _ _ _ _ _ _; (repeat (rename (∀ (A : Fr) (H : Hp), AWP _ _ _ _ A H → _) => hK; clear hK)); (repeat (rename (Fr → Hp → Prop) => K; clear K))) | (show Exists _; (repeat (rename (∀ (A : Fr) (H : Hp), AWP _ _ _ _ A H → _) => hK; clear hK)); (repeat (rename (Fr → Hp → Prop) => K; clear K))) | skip)
    · omega
    · refine ⟨(k + 1, comp q (invp t)), ⟨by dsimp only; omega, hq.comp (ht (by omega)).inv, by rw [he, hstep (by omega), hT]⟩, by dsimp only; omega, Sub.toL (by simp only [go_sem] <;> first | trivial | (simp only [Option.some.injEq, AV.v.injEq, AV.own.injEq, AV.list.injEq, Value.int.injEq, Value.bool.injEq, true_and, and_true]; first | omega | (simp; done)) | (simp; done) | (simp; omega)) (Hp.le_emp _)⟩
    · exact end_retDV rfl (by decide) rfl (by rw [he, hend (by omega)]; rw [show n = k by omega])
end Go.Proofs.Ytngpacdhpblpbaa
end
