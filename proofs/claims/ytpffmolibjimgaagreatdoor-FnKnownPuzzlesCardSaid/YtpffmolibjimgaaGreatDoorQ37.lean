import Derived.Test.YtpffmolibjimgaaGreatDoorQ36
import Derived.Test.YtpffmolibjimgaaGreatDoorQ25
import Derived.Test.YtpffmolibjimgaaGreatDoorQ2
/- Sorted indices over rows of numbers: the order of rows, where a row stands, how one is put in. -/
section
namespace Go.Pm
set_option linter.unusedVariables false
set_option linter.unusedSimpArgs false

def lx : List Int → List Int → Bool
  | x :: xs, y :: ys => if x = y then lx xs ys else decide (x < y)
  | _, _ => false
theorem lx_trans : ∀ {a b c : List Int}, lx a b = true → lx b c = true → lx a c = true
  | [], _, _, h, _ => by simp [lx] at h
  | _ :: _, [], _, h, _ => by simp [lx] at h
  | _ :: _, _ :: _, [], _, h => by simp [lx] at h
  | x :: xs, y :: ys, z :: zs, h, k => by
    unfold lx at h k ⊢
    by_cases h1 : x = y
    · subst h1
      by_cases h2 : x = z
      · subst h2; simp only [if_true] at h k ⊢; exact lx_trans h k
      · simp only [if_true, if_neg h2] at k ⊢; exact k
    · simp only [if_neg h1, decide_eq_true_eq] at h
      by_cases h2 : y = z
      · subst h2; rw [if_neg h1]; simpa using h
      · simp only [if_neg h2, decide_eq_true_eq] at k
        rw [if_neg (by omega)]; simp; omega
/-- The j-th row in the sorted order. -/
def srow (xs : List (List Int)) (so : List Int) (j : Nat) : List Int := xs.getD (so.getD j 0).toNat []
structure Srt (m : Nat) (xs : List (List Int)) (so : List Int) : Prop where
  len : so.length = xs.length
  same : ∀ s ∈ xs, s.length = m
  rng : ∀ i, i < so.length → 0 ≤ so.getD i 0 ∧ so.getD i 0 < xs.length
  inc : ∀ i j, i < j → j < so.length → lx (srow xs so i) (srow xs so j) = true
  sur : ∀ k : Nat, k < xs.length → ∃ i, i < so.length ∧ so.getD i 0 = (k : Int)
/-- Where a row stands or would stand. -/
structure Slot (xs : List (List Int)) (so : List Int) (s : List Int) (a : Nat) : Prop where
  le : a ≤ so.length
  lo : ∀ i, i < a → lx (srow xs so i) s = true
  hi : ∀ i, a ≤ i → i < so.length → lx (srow xs so i) s = false
def slot (xs : List (List Int)) (so : List Int) (s : List Int) : Nat := so.findIdx fun j => !lx (xs.getD j.toNat []) s
section
variable {m : Nat} {xs : List (List Int)} {so : List Int} {s : List Int}
theorem Slot.eq {a : Nat} (h : Slot xs so s a) : slot xs so s = a := by
  unfold slot
  by_cases e : a < so.length
  · refine (List.findIdx_eq e).2 ⟨?_, fun j hj => ?_⟩
    · have := h.hi a (Nat.le_refl _) e
      unfold srow at this
      rw [List.getD_eq_getElem?_getD (l := so), List.getElem?_eq_getElem e, Option.getD_some] at this
      rw [this]; rfl
    · have := h.lo j hj
      have hj' : j < so.length := by omega
      unfold srow at this
      rw [List.getD_eq_getElem?_getD (l := so), List.getElem?_eq_getElem hj', Option.getD_some] at this
      rw [this]; rfl
  · have ha : a = so.length := by have := h.le; omega
    subst ha
    refine List.findIdx_eq_length.2 fun j hj => ?_
    obtain ⟨i, hi, rfl⟩ := List.getElem_of_mem hj
    have := h.lo i hi
    unfold srow at this
    rw [List.getD_eq_getElem?_getD (l := so), List.getElem?_eq_getElem hi, Option.getD_some] at this
    rw [this]; rfl
theorem mem_getD {l : List (List Int)} {i : Nat} (h : i < l.length) : l.getD i [] ∈ l := by
  rw [List.getD_eq_getElem?_getD, List.getElem?_eq_getElem h]; exact List.getElem_mem h
theorem Srt.row (h : Srt m xs so) {i : Nat} (hi : i < so.length) : srow xs so i ∈ xs := by
  have := h.rng i hi
  exact mem_getD (by omega)
theorem Srt.slot (h : Srt m xs so) (s : List Int) : Slot xs so s (Go.Pm.slot xs so s) := by
  unfold Go.Pm.slot
  have g : ∀ i, i < so.length → so.getD i 0 = so[i]! := fun i hi => by simp [List.getD_eq_getElem?_getD, hi]
  refine ⟨List.findIdx_le_length, fun i hi => ?_, fun i hi hl => ?_⟩
  · have hl : i < so.length := Nat.lt_of_lt_of_le hi List.findIdx_le_length
    have := List.not_of_lt_findIdx hi
    unfold srow
    rw [List.getD_eq_getElem?_getD (l := so), List.getElem?_eq_getElem hl, Option.getD_some]
    simpa using this
  · have hf : so.findIdx (fun j => !lx (xs.getD j.toNat []) s) < so.length := by omega
    have h1 := List.findIdx_getElem (w := hf)
    have h2 : lx (srow xs so (so.findIdx fun j => !lx (xs.getD j.toNat []) s)) s = false := by
      unfold srow
      rw [List.getD_eq_getElem?_getD (l := so), List.getElem?_eq_getElem hf, Option.getD_some]
      simpa using h1
    rcases Nat.lt_or_eq_of_le hi with h3 | h3
    · cases e : lx (srow xs so i) s with
      | false => rfl
      | true => have := lx_trans (h.inc _ _ h3 hl) e; rw [h2] at this; cases this
    · rw [← h3]; exact h2
theorem Srt.below (h : Srt m xs so) {k : Nat} (hk : k < so.length) (e : lx (srow xs so k) s = true) : ∀ i, i < k + 1 → lx (srow xs so i) s = true := fun i hi => by
  by_cases h1 : i = k
  · subst h1; exact e
  · exact lx_trans (h.inc i k (by omega) hk) e
theorem Srt.above (h : Srt m xs so) {k : Nat} (e : lx (srow xs so k) s = false) : ∀ i, k ≤ i → i < so.length → lx (srow xs so i) s = false := fun i h1 h2 => by
  by_cases h3 : i = k
  · subst h3; exact e
  · cases e2 : lx (srow xs so i) s with
    | false => rfl
    | true => have := lx_trans (h.inc k i (by omega) h2) e2; rw [e] at this; cases this
theorem Srt.one (s0 : List Int) : Srt s0.length [s0] [0] := by
  refine ⟨rfl, by simp, ?_, ?_, ?_⟩
  · intro i hi; simp at hi; subst hi; simp
  · intro i j hij hj; simp at hj; omega
  · intro k hk; simp at hk; subst hk; exact ⟨0, by simp, rfl⟩
end
end Go.Pm
end
/- The whole search: depths, neighbors, how many rows there are; the order of a group. -/
section
namespace Go.Pm
set_option linter.unusedVariables false
set_option linter.unusedSimpArgs false

section
variable {Ls : List (Int × List Int)} {s0 : List Int} {n : Nat}
/-- Depths: they do not fall; beside the state number k they are at most one more; each but the first has a parent. -/
structure Bf.Dp (Ls : List (Int × List Int)) (k : Nat) (B : Bf) : Prop where
  ld : B.dp.length = B.st.length
  z : B.dp.getD 0 0 = 0
  mono : ∀ i j, i ≤ j → j < B.st.length → B.dp.getD i 0 ≤ B.dp.getD j 0
  bd : k < B.st.length → ∀ j, j < B.st.length → B.dp.getD j 0 ≤ B.dp.getD k 0 + 1
  par : ∀ j, 0 < j → j < B.st.length → ∃ q l, q < j ∧ l ∈ Ls ∧ B.st.getD j [] = comp (B.st.getD q []) l.2 ∧ B.dp.getD j 0 = B.dp.getD q 0 + 1
theorem Bf.Dp.meet {k : Nat} {x : Bf × List Int} {l : Int × List Int} (hl : l ∈ Ls) (hk : k < x.1.st.length) (h : Bf.Dp Ls k x.1) : Bf.Dp Ls k (Bf.meet k x l).1 := by
  unfold Bf.meet
  split
  · exact h
  · have hld := h.ld
    have g : ∀ j, j < x.1.st.length → (x.1.dp ++ [x.1.dp.getD k 0 + 1]).getD j 0 = x.1.dp.getD j 0 := fun j hj => by
      rw [Go.Av.getD_append, if_pos (by omega)]
    have g1 : (x.1.dp ++ [x.1.dp.getD k 0 + 1]).getD x.1.st.length 0 = x.1.dp.getD k 0 + 1 := by
      rw [Go.Av.getD_append, if_neg (by omega), hld, Nat.sub_self]; rfl
    have s : ∀ j, j < x.1.st.length → (x.1.st ++ [comp (x.1.st.getD k []) l.2]).getD j [] = x.1.st.getD j [] := fun j hj => by
      rw [Go.Av.getD_append, if_pos (by omega)]
    refine ⟨by simp [hld], ?_, ?_, ?_, ?_⟩
    · rw [g 0 (by omega)]; exact h.z
    · intro i j hij hj
      simp only [List.length_append, List.length_cons, List.length_nil] at hj
      by_cases e : j = x.1.st.length
      · subst e
        rw [g1]
        by_cases e2 : i = x.1.st.length
        · subst e2; rw [g1]; exact Int.le_refl _
        · rw [g i (by omega)]; exact h.bd hk i (by omega)
      · rw [g i (by omega), g j (by omega)]; exact h.mono i j hij (by omega)
    · intro _ j hj
      simp only [List.length_append, List.length_cons, List.length_nil] at hj
      rw [g k hk]
      by_cases e : j = x.1.st.length
      · subst e; rw [g1]; exact Int.le_refl _
      · rw [g j (by omega)]; exact h.bd hk j (by omega)
    · intro j h0 hj
      simp only [List.length_append, List.length_cons, List.length_nil] at hj
      by_cases e : j = x.1.st.length
      · subst e
        refine ⟨k, l, hk, hl, ?_, by rw [g1, g k hk]⟩
        dsimp only
        rw [s k hk, Go.Av.getD_append, if_neg (by omega), Nat.sub_self]; rfl
      · obtain ⟨q, l', h1, h2, h3, h4⟩ := h.par j h0 (by omega)
        refine ⟨q, l', h1, h2, ?_, by rw [g j (by omega), g q (by omega)]; exact h4⟩
        dsimp only
        rw [s j (by omega), s q (by omega)]; exact h3
theorem Bf.Dp.rows {k : Nat} {B : Bf} (hk : k < B.st.length) (h : Bf.Dp Ls k B) : ∀ j, j ≤ Ls.length → Bf.Dp Ls k (B.rows Ls k j).1
  | 0, _ => h
  | j + 1, hj => by
    rw [Bf.rows_succ k B (by omega)]
    exact Bf.Dp.meet (mem_getD_of_lt _ (by omega)) (Nat.lt_of_lt_of_le hk ((Bf.rows_more k B j (by omega)).st.length_le)) (Bf.Dp.rows hk h j (by omega))
theorem Bf.Dp.next {k : Nat} {B : Bf} (hk : k < B.st.length) (h : Bf.Dp Ls k B) : Bf.Dp Ls (k + 1) (B.step Ls k) := by
  have h1 := Bf.Dp.rows hk h Ls.length (Nat.le_refl _)
  have h2 := (Bf.rows_more (Ls := Ls) k B Ls.length (Nat.le_refl _)).st.length_le
  refine ⟨h1.ld, h1.z, h1.mono, fun hk1 j hj => ?_, h1.par⟩
  have h3 := h1.bd (by omega) j hj
  have h4 := h1.mono k (k + 1) (by omega) hk1
  show (B.rows Ls k Ls.length).1.dp.getD j 0 ≤ (B.rows Ls k Ls.length).1.dp.getD (k + 1) 0 + 1
  omega
theorem Bf.Dp.run : ∀ k, (∀ j, j < k → j < (Bf.run Ls s0 j).st.length) → Bf.Dp Ls k (Bf.run Ls s0 k)
  | 0, _ => by
    refine ⟨rfl, rfl, ?_, ?_, ?_⟩
    · intro i j hij hj; simp [Bf.run] at hj; subst hj; obtain rfl : i = 0 := by omega
      exact Int.le_refl _
    · intro _ j hj; simp [Bf.run] at hj; subst hj; simp [Bf.run]
    · intro j h0 hj; simp [Bf.run] at hj; omega
  | k + 1, h => Bf.Dp.next (h k (by omega)) (Bf.Dp.run k fun j hj => h j (by omega))
/-- What the whole search gives. -/
structure Bf.Whole (n : Nat) (Ls : List (Int × List Int)) (s0 : List Int) (B : Bf) : Prop where
  nd : B.st.Nodup
  pos : 0 < B.st.length
  st0 : B.st.getD 0 [] = s0
  len : ∀ s ∈ B.st, s.length = s0.length
  rng : ∀ s ∈ B.st, ∀ j, j < s.length → 0 ≤ s.getD j 0 ∧ s.getD j 0 < n
  ld : B.dp.length = B.st.length
  z : B.dp.getD 0 0 = 0
  mono : ∀ i j, i ≤ j → j < B.st.length → B.dp.getD i 0 ≤ B.dp.getD j 0
  par : ∀ j, 0 < j → j < B.st.length → ∃ q l, q < j ∧ l ∈ Ls ∧ B.st.getD j [] = comp (B.st.getD q []) l.2 ∧ B.dp.getD j 0 = B.dp.getD q 0 + 1
  cl : ∀ s ∈ B.st, ∀ l ∈ Ls, comp s l.2 ∈ B.st
  up : ∀ k, k < B.st.length → ∀ l ∈ Ls, B.dp.getD (B.st.idxOf (comp (B.st.getD k []) l.2)) 0 ≤ B.dp.getD k 0 + 1
  nl : B.nx.length = B.st.length
  nx : ∀ k, k < B.st.length → (B.nx.getD k []).length = Ls.length ∧ ∀ i, i < Ls.length → (B.nx.getD k []).getD i 0 = ((B.st.idxOf (comp (B.st.getD k []) (Ls.getD i (0, [])).2) : Nat) : Int)
theorem Bf.nx_len : ∀ k, (∀ j, j < k → j < (Bf.run Ls s0 j).st.length) → (Bf.run Ls s0 k).nx.length = k
  | 0, _ => rfl
  | k + 1, h => by
    have ih := Bf.nx_len k fun j hj => h j (by omega)
    show ((Bf.run Ls s0 k).nx ++ [_]).length = k + 1
    rw [List.length_append, ih]; rfl
theorem Bf.nx_get : ∀ k i, i < k → (∀ j, j < k → j < (Bf.run Ls s0 j).st.length) → (Bf.run Ls s0 k).nx.getD i [] = ((Bf.run Ls s0 i).rows Ls i Ls.length).2
  | 0, i, hi, _ => by omega
  | k + 1, i, hi, h => by
    have hl := Bf.nx_len k fun j hj => h j (by omega)
    show ((Bf.run Ls s0 k).nx ++ [((Bf.run Ls s0 k).rows Ls k Ls.length).2]).getD i [] = _
    rw [Go.Av.getD_append]
    split
    · exact Bf.nx_get k i (by omega) fun j hj => h j (by omega)
    · rw [show i = k by omega, hl, Nat.sub_self]; rfl
theorem Bf.Done.whole (hG : ∀ g ∈ Ls.map (·.2), Pm n g) (hs : ∀ j, j < s0.length → 0 ≤ s0.getD j 0 ∧ s0.getD j 0 < n) {K : Nat} (h : Bf.Done Ls s0 K) : Bf.Whole n Ls s0 (Bf.run Ls s0 K) := by
  have hJ := Bf.J.run hG hs K h.2
  have hD := Bf.Dp.run (Ls := Ls) (s0 := s0) K h.2
  have hlen : ∀ s ∈ (Bf.run Ls s0 K).st, s.length = s0.length := fun s hm => by
    obtain ⟨g, hg, rfl⟩ := hJ.gen s hm
    exact comp_length _ _
  have hrow : ∀ k, k < K → ∀ i, i < Ls.length → comp ((Bf.run Ls s0 K).st.getD k []) (Ls.getD i (0, [])).2 ∈ (Bf.run Ls s0 (k + 1)).st ∧
      ((Bf.run Ls s0 k).rows Ls k Ls.length).2.getD i 0 = (((Bf.run Ls s0 K).st.idxOf (comp ((Bf.run Ls s0 K).st.getD k []) (Ls.getD i (0, [])).2) : Nat) : Int) := fun k hk i hi => by
    have hk1 := h.2 k hk
    obtain ⟨h1, h2⟩ := Bf.rows_row (Ls := Ls) hk1 Ls.length (Nat.le_refl _) i hi
    have e0 : (Bf.run Ls s0 K).st.getD k [] = (Bf.run Ls s0 k).st.getD k [] := pre_getD (Bf.run_more (show k ≤ K by omega)).st hk1 []
    rw [e0]
    refine ⟨h1, h2.trans ?_⟩
    have hm := (Bf.run_more (Ls := Ls) (s0 := s0) (show k + 1 ≤ K by omega)).st
    obtain ⟨r, hr⟩ := hm
    have h1' : comp ((Bf.run Ls s0 k).st.getD k []) (Ls.getD i (0, [])).2 ∈ (Bf.run Ls s0 (k + 1)).st := h1
    rw [← hr, List.idxOf_append, if_pos h1']; rfl
  have hKl := h.1
  refine ⟨hJ.nd, hJ.ne.2, hJ.ne.1, hlen, ?_, hD.ld, hD.z, hD.mono, hD.par, fun s hm l hl => h.closed hm hl, ?_, ?_, ?_⟩
  · intro s hm j hj
    obtain ⟨g, hg, rfl⟩ := hJ.gen s hm
    have hgp := hg.pm hG
    rw [comp_length] at hj
    rw [comp_get _ _ hj]
    have := hs j hj
    exact hgp.2.1 _ (by unfold img; omega)
  · intro k hk l hl
    obtain ⟨i, hi, rfl⟩ := List.getElem_of_mem hl
    have hkK : k < K := by omega
    obtain ⟨h1, h2⟩ := hrow k hkK i hi
    have eL : (Ls.getD i (0, [])) = Ls[i] := by rw [List.getD_eq_getElem?_getD, List.getElem?_eq_getElem hi]; rfl
    rw [eL] at h1
    have hD1 := Bf.Dp.run (Ls := Ls) (s0 := s0) k fun j hj => h.2 j (by omega)
    have hD2 := Bf.Dp.rows (Ls := Ls) (h.2 k hkK) hD1 Ls.length (Nat.le_refl _)
    have hl2 := (Bf.rows_more (Ls := Ls) k (Bf.run Ls s0 k) Ls.length (Nat.le_refl _)).st.length_le
    have hk1 := h.2 k hkK
    have hm := (Bf.run_more (Ls := Ls) (s0 := s0) (show k + 1 ≤ K by omega))
    obtain ⟨r, hr⟩ := hm.st
    have hx : (Bf.run Ls s0 K).st.idxOf (comp ((Bf.run Ls s0 K).st.getD k []) Ls[i].2) = (Bf.run Ls s0 (k + 1)).st.idxOf (comp ((Bf.run Ls s0 K).st.getD k []) Ls[i].2) := by
      rw [← hr] at h1 ⊢
      rw [List.idxOf_append, if_pos h1]
    have hlt : (Bf.run Ls s0 (k + 1)).st.idxOf (comp ((Bf.run Ls s0 K).st.getD k []) Ls[i].2) < (Bf.run Ls s0 (k + 1)).st.length := List.idxOf_lt_length_iff.2 h1
    rw [hx, pre_getD hm.dp (by show _ < ((Bf.run Ls s0 k).rows Ls k Ls.length).1.dp.length; rw [hD2.ld]; exact hlt) 0, pre_getD hm.dp (by show _ < ((Bf.run Ls s0 k).rows Ls k Ls.length).1.dp.length; rw [hD2.ld]; omega) 0]
    exact hD2.bd (by omega) _ hlt
  · rw [Bf.nx_len K h.2]; exact hKl
  · intro k hk
    rw [Bf.nx_get K k (by omega) h.2]
    exact ⟨Bf.rows_len k _ Ls.length (Nat.le_refl _), fun i hi => (hrow k (by omega) i hi).2⟩

/-- The search, if it ends with at most 3000 rows. -/
def Bf.Fin (Ls : List (Int × List Int)) (s0 : List Int) (B : Bf) : Prop := ∃ K, Bf.Done Ls s0 K ∧ K ≤ 3000 ∧ B = Bf.run Ls s0 K
theorem Bf.Fin.uniq {B B' : Bf} (h : Bf.Fin Ls s0 B) (h' : Bf.Fin Ls s0 B') : B = B' := by
  obtain ⟨K, h1, _, rfl⟩ := h
  obtain ⟨K', h2, _, rfl⟩ := h'
  rw [h1.uniq h2]
noncomputable def srch (Ls : List (Int × List Int)) (s0 : List Int) : Option Bf := @dite _ (∃ B, Bf.Fin Ls s0 B) (Classical.propDecidable _) (fun h => some h.choose) (fun _ => none)
theorem srch_none (h : ∀ K, Bf.Done Ls s0 K → 3000 < K) : srch Ls s0 = none := by
  unfold srch
  rw [dif_neg]
  rintro ⟨B, K, h1, h2, _⟩
  have := h K h1; omega
/-- The search is cut: there are more rows. -/
theorem Bf.cut {k i : Nat} (h : ∀ j, j ≤ k → j < (Bf.run Ls s0 j).st.length) (hi : i < Ls.length) (hn : comp (((Bf.run Ls s0 k).rows Ls k i).1.st.getD k []) (Ls.getD i (0, [])).2 ∉ ((Bf.run Ls s0 k).rows Ls k i).1.st) (h3 : 3000 ≤ ((Bf.run Ls s0 k).rows Ls k i).1.st.length) : srch Ls s0 = none := by
  refine srch_none fun K hK => ?_
  have hkK : k < K := by
    refine Nat.lt_of_not_le fun hle => ?_
    have := h K hle
    have := hK.1
    omega
  have h1 : ((Bf.run Ls s0 k).rows Ls k (i + 1)).1.st.length = ((Bf.run Ls s0 k).rows Ls k i).1.st.length + 1 := by
    rw [Bf.rows_succ k _ hi]
    unfold Bf.meet
    rw [if_neg hn]; simp
  have h2 : ∀ a b, a ≤ b → b ≤ Ls.length → ((Bf.run Ls s0 k).rows Ls k a).1.st.length ≤ ((Bf.run Ls s0 k).rows Ls k b).1.st.length := by
    intro a b hab
    induction b with
    | zero => intro _; rw [show a = 0 by omega]; exact Nat.le_refl _
    | succ b ih =>
      intro hb
      by_cases e : a = b + 1
      · rw [e]; exact Nat.le_refl _
      · have := ih (by omega) (by omega)
        rw [Bf.rows_succ k _ (by omega)]
        exact Nat.le_trans this (Bf.meet_more _ _ _).st.length_le
  have h4 := h2 (i + 1) Ls.length (by omega) (Nat.le_refl _)
  have h5 := (Bf.run_more (Ls := Ls) (s0 := s0) (show k + 1 ≤ K by omega)).st.length_le
  have h6 : (Bf.run Ls s0 (k + 1)).st.length = ((Bf.run Ls s0 k).rows Ls k Ls.length).1.st.length := rfl
  have := hK.1
  omega
theorem Bf.rows_mono {k a b : Nat} {B : Bf} (hab : a ≤ b) (hb : b ≤ Ls.length) : (B.rows Ls k a).1.st <+: (B.rows Ls k b).1.st := by
  induction b with
  | zero => rw [show a = 0 by omega]; exact List.prefix_refl _
  | succ b ih =>
    by_cases e : a = b + 1
    · rw [e]; exact List.prefix_refl _
    · refine (ih (by omega) (by omega)).trans ?_
      rw [Bf.rows_succ k _ (by omega)]
      exact (Bf.meet_more _ _ _).st
/-- Where the search is cut. -/
def Bf.CutAt (Ls : List (Int × List Int)) (s0 : List Int) (k i : Nat) : Prop := (∀ j, j ≤ k → j < (Bf.run Ls s0 j).st.length) ∧ i < Ls.length ∧ comp (((Bf.run Ls s0 k).rows Ls k i).1.st.getD k []) (Ls.getD i (0, [])).2 ∉ ((Bf.run Ls s0 k).rows Ls k i).1.st ∧ ((Bf.run Ls s0 k).rows Ls k i).1.st.length = 3000
theorem Bf.CutAt.more {k i k' i' : Nat} (h : Bf.CutAt Ls s0 k i) (hi : i' ≤ Ls.length) (hl : k < k' ∨ (k = k' ∧ i < i')) : 3000 < ((Bf.run Ls s0 k').rows Ls k' i').1.st.length := by
  obtain ⟨h1, h2, h3, h4⟩ := h
  have e : ((Bf.run Ls s0 k).rows Ls k (i + 1)).1.st.length = 3001 := by
    rw [Bf.rows_succ k _ h2]
    unfold Bf.meet
    rw [if_neg h3]; simp [h4]
  rcases hl with hl | ⟨rfl, hl⟩
  · have a1 := (Bf.rows_mono (Ls := Ls) (k := k) (B := Bf.run Ls s0 k) (show i + 1 ≤ Ls.length by omega) (Nat.le_refl _)).length_le
    have a2 : (Bf.run Ls s0 (k + 1)).st.length = ((Bf.run Ls s0 k).rows Ls k Ls.length).1.st.length := rfl
    have a3 := (Bf.run_more (Ls := Ls) (s0 := s0) (show k + 1 ≤ k' by omega)).st.length_le
    have a4 := (Bf.rows_mono (Ls := Ls) (k := k') (B := Bf.run Ls s0 k') (Nat.zero_le i') hi).length_le
    have a5 : ((Bf.run Ls s0 k').rows Ls k' 0).1.st.length = (Bf.run Ls s0 k').st.length := rfl
    omega
  · have a1 := (Bf.rows_mono (Ls := Ls) (k := k) (B := Bf.run Ls s0 k) (show i + 1 ≤ i' by omega) hi).length_le
    omega
theorem Bf.CutAt.uniq {k i k' i' : Nat} (h : Bf.CutAt Ls s0 k i) (h' : Bf.CutAt Ls s0 k' i') : k = k' ∧ i = i' := by
  rcases Nat.lt_trichotomy k k' with h1 | h1 | h1
  · have := h.more (i' := i') (Nat.le_of_lt h'.2.1) (.inl h1); have := h'.2.2.2; omega
  · refine ⟨h1, ?_⟩
    rcases Nat.lt_trichotomy i i' with h2 | h2 | h2
    · have := h.more (i' := i') (Nat.le_of_lt h'.2.1) (.inr ⟨h1, h2⟩); have := h'.2.2.2; omega
    · exact h2
    · have := h'.more (i' := i) (Nat.le_of_lt h.2.1) (.inr ⟨h1.symm, h2⟩); have := h.2.2.2; omega
  · have := h'.more (i' := i) (Nat.le_of_lt h.2.1) (.inl h1); have := h.2.2.2; omega
end

section
variable {Ls : List (Int × List Int)} {s0 : List Int} {n : Nat}
theorem Bf.Dp.le {k : Nat} {B : Bf} (h : Bf.Dp Ls k B) : ∀ j, j < B.st.length → 0 ≤ B.dp.getD j 0 ∧ B.dp.getD j 0 ≤ j := by
  intro j
  induction j using Nat.strongRecOn with
  | _ j ih =>
    intro hj
    by_cases e : j = 0
    · subst e; rw [h.z]; omega
    · obtain ⟨q, l, h1, _, _, h4⟩ := h.par j (by omega) hj
      have := ih q h1 (by omega)
      omega
theorem Bf.Whole.le {B : Bf} (h : Bf.Whole n Ls s0 B) : ∀ j, j < B.st.length → 0 ≤ B.dp.getD j 0 ∧ B.dp.getD j 0 ≤ j := by
  intro j
  induction j using Nat.strongRecOn with
  | _ j ih =>
    intro hj
    by_cases e : j = 0
    · subst e; rw [h.z]; omega
    · obtain ⟨q, l, h1, _, _, h4⟩ := h.par j (by omega) hj
      have := ih q h1 (by omega)
      omega
/-- What holds while the search goes on. -/
theorem Bf.mid (hG : ∀ g ∈ Ls.map (·.2), Pm n g) (hs : ∀ j, j < s0.length → 0 ≤ s0.getD j 0 ∧ s0.getD j 0 < n) {k : Nat} (h : ∀ j, j ≤ k → j < (Bf.run Ls s0 j).st.length) {i : Nat} (hi : i ≤ Ls.length) :
    Bf.J n Ls s0 ((Bf.run Ls s0 k).rows Ls k i).1 ∧ Bf.Dp Ls k ((Bf.run Ls s0 k).rows Ls k i).1 ∧ k < ((Bf.run Ls s0 k).rows Ls k i).1.st.length ∧ (∀ s ∈ ((Bf.run Ls s0 k).rows Ls k i).1.st, s.length = s0.length ∧ ∀ j, j < s.length → 0 ≤ s.getD j 0 ∧ s.getD j 0 < n) := by
  have h1 := Bf.J.run hG hs k fun j hj => h j (by omega)
  have h2 := Bf.J.rows (fun j hj => by have := hs j hj; unfold img; omega) hG (h k (Nat.le_refl _)) h1 i hi
  have h3 := Bf.Dp.rows (Ls := Ls) (h k (Nat.le_refl _)) (Bf.Dp.run (Ls := Ls) (s0 := s0) k fun j hj => h j (by omega)) i hi
  refine ⟨h2, h3, Nat.lt_of_lt_of_le (h k (Nat.le_refl _)) (Bf.rows_more (Ls := Ls) k (Bf.run Ls s0 k) i hi).st.length_le, fun s hm => ?_⟩
  obtain ⟨g, hg, rfl⟩ := h2.gen s hm
  refine ⟨comp_length _ _, fun j hj => ?_⟩
  rw [comp_length] at hj
  rw [comp_get _ _ hj]
  have := hs j hj
  exact (hg.pm hG).2.1 _ (by unfold img; omega)
end
/-- How many members a group has. -/
noncomputable def ordG (n : Nat) (S : List (List Int)) : Nat := @dite _ (∃ m : Nat, ∃ L : List (List Int), L.Nodup ∧ L.length = m ∧ ∀ g, g ∈ L ↔ Gen n S g) (Classical.propDecidable _) (fun h => h.choose) (fun _ => 0)
theorem ordG_eq {n : Nat} {S L : List (List Int)} (nd : L.Nodup) (hL : ∀ g, g ∈ L ↔ Gen n S g) : ordG n S = L.length := by
  have h : ∃ m : Nat, ∃ L : List (List Int), L.Nodup ∧ L.length = m ∧ ∀ g, g ∈ L ↔ Gen n S g := ⟨_, L, nd, rfl, hL⟩
  unfold ordG
  rw [dif_pos h]
  obtain ⟨L', nd', e, hL'⟩ := h.choose_spec
  rw [← e]
  exact Nat.le_antisymm (Go.Plain.nodup_le L L' nd' fun x hx => (hL x).2 ((hL' x).1 hx)) (Go.Plain.nodup_le L' L nd fun x hx => (hL' x).2 ((hL x).1 hx))
theorem ordG_chain {n : Nat} {S : List (List Int)} {C : Ch} (w : C.WF n) (hF : C.Full n 0) (h : ∀ g, Gen n S g ↔ Gen n (C.S 0) g) : ordG n S = C.ord n n 0 := by
  obtain ⟨L, nd, e, hL⟩ := Ch.members w hF
  rw [← e]
  exact ordG_eq nd fun g => (hL g).trans (h g).symm
end Go.Pm
end
/- Stabilizer chains: how they lie, and what sifting returns. -/
section
namespace Go.Proofs.YtpffmolibjimgaaGreatDoor
open Go.Av
set_option linter.unusedSimpArgs false
set_option linter.unusedVariables false
attribute [local irreducible] AWP CallG Ob Br BrP Go.Av.Sub endQ AOps OpV AC thenA blkA opsVC opVC withA withArgs opsQ opQ CallQ withA2 withArgs2
open Go.Pm (Pm comp invp idn img Ch)

def tF (T : Nat → Option (List Int)) (k : Nat) : AV := match T k with | none => .v (.slice none 0 0) | some p => ints p
theorem tF_none {T : Nat → Option (List Int)} {k : Nat} (h : T k = none) : tF T k = .v (.slice none 0 0) := by unfold tF; rw [h]
theorem tF_some {T : Nat → Option (List Int)} {k : Nat} {p : List Int} (h : T k = some p) : tF T k = .list false 1 p.length (cM iv 0 p) := by unfold tF; rw [h]; rfl
/-- The rows of representatives and the rows of generators, only read. -/
def rowF (n : Nat) (C : Ch) (i : Nat) : AV := .list false 1 n (tF (C.T i))
def genF (C : Ch) (i : Nat) : AV := .list false 1 (C.S i).length (cM ints [] (C.S i))
theorem rowF_app (n : Nat) (C : Ch) (i : Nat) : rowF n C i = .list false 1 n (tF (C.T i)) := rfl
/-- A chain, only read: of the program, and of the reference. -/
def chI (n : Nat) (C : Ch) : AV := .ptr 3 (vecF [.v (.int .i64 n), .list false 1 n (genF C), .list false 1 n (rowF n C)])
theorem nil_no {t : List Int} {n : Nat} (h : t.length = n) (h0 : 0 < n) : (if (false || decide (0 < t.length)) = true then some false else none) = some false := by
  rw [if_pos (by simp; omega)]
theorem has_ok (n : Nat) (C : Ch) (i : Nat) (p : List Int) (hn : n ≤ 20) (hi : i ≤ n) (hw : C.WF n) (hp : Pm n p) : AC Tryz.prog 113 [chI n C, .v (.int .i64 (i)), ints p] Hp.emp (fun _ => false) (retV (.v (.bool (C.has (n - i) i p)))) := by
  unfold chI
  refine ac_of_awp (N := ⟨_, fun _ => false, fun _ _ => rfl, true⟩) Tryz.func113 rfl (by kernel_rfl) Tryz.ntmps113 (by simp) ?_
  simp only [argsFr, List.zipIdx_cons, List.zipIdx_nil, go_sem]
  repeat' (first | refine awp_seqK fun K hK => ?_ | (refine awp_regionK 4295000519 rfl ?_; simp only [List.map_cons, List.map_nil]; simp (maxSteps := 1000000) (dsimp := false) (implicitDefEqProofs := false) (disch := omega) only [wrap64, go_sem]) | (refine awp_regionQK 4295000519 (by kernel_rfl) (by kernel_rfl) (by kernel_rfl) ?_; simp only [List.map_cons, List.map_nil]; simp (maxSteps := 1000000) (dsimp := false) (implicitDefEqProofs := false) (disch := omega) only [wrap64, go_sem]) | refine awp_block ?_ | (refine awp_skip ?_; simp only [go_sem]) | (refine awp_exit ?_; simp only [go_sem]) | (refine awp_ret ?_; try simp only [go_sem]) | (refine awp_condP rfl ?_; try simp only [go_sem]) | (refine BrP.mk (fun h => ?_) (fun h => ?_) <;> try simp (dsimp := false) (disch := omega) only [wrap64]) | (refine Br.mk (fun h => ?_) (fun h => ?_) <;> try simp (dsimp := false) (disch := omega) only [wrap64]) | refine Ob.mk (by first | omega | (intro _ _; rfl) | trivial | (intros; trivial) | assumption | (intro i hi; have h0 : i = 0 := (by omega); subst h0; first | rfl | trivial) | (intro i hi; have h0 : i = 0 ∨ i = 1 := (by omega); rcases h0 with rfl | rfl <;> rfl) | (intro i hi; have h0 : i = 0 ∨ i = 1 ∨ i = 2 := (by omega); rcases h0 with rfl | rfl | rfl <;> rfl)) ?_ | apply_assumption -exfalso -symm)
  all_goals (first | (show endQ _ _ _ _ _ _ _; (repeat (rename (∀ (A : Fr) (H : Hp), AWP _ _ _ _ A H → _) => hK; clear hK)); (repeat (rename (Fr → Hp → Prop) => K; clear K))) | (show Exists _; (repeat (rename (∀ (A : Fr) (H : Hp), AWP _ _ _ _ A H → _) => hK; clear hK)); (repeat (rename (Fr → Hp → Prop) => K; clear K))) | skip)
  refine awp_loop (ι := Nat × List Int) (fun x => [(7, .v (.int .i64 (x.1))), (2, .list false 1 (x.2).length (cM iv 0 (x.2))), (0, chI n C)]) (fun x => Hp.emp) (fun x => x.1 ≤ n ∧ Pm n x.2 ∧ C.has (n - i) i p = C.has (n - x.1) x.1 x.2) (fun x => n - x.1) (i, p) ?_ (Sub.toL (by simp only [go_sem] <;> first | trivial | (simp only [Option.some.injEq, AV.v.injEq, AV.own.injEq, AV.list.injEq, Value.int.injEq, Value.bool.injEq, true_and, and_true]; first | omega | (simp [chI]; done)) | (simp [chI]; done) | (simp [chI]; omega)) (by (repeat' (first | exact Hp.le_emp _ | exact Hp.le_refl _ | refine Hp.le_upd ?_ ?_)); all_goals (first | rfl | (simp only [go_sem]; first | rfl | (refine cellsE ?_ ?_ <;> (simp [chI])) | (simp [chI]))))) ?_
  · exact ⟨hi, hp, rfl⟩
  rintro ⟨k, q⟩ ⟨hk, hq, he⟩
  dsimp only at hk hq he ⊢
  unfold chI
  have hql := hq.1
  have hlt : k < n → 0 ≤ q.getD k 0 ∧ q.getD k 0 < n := hq.2.1 k
  have hstep : k < n → C.has (n - k) k q = match C.T k (img q k) with | none => false | some t => C.has (n - (k + 1)) (k + 1) (comp q (invp t)) := fun h => by
    rw [show n - k = (n - (k + 1)) + 1 by omega]; rfl
  cases hT : C.T k (img q k) with
  | none =>
    have hTF : tF (C.T k) (q.getD k 0).toNat = .v (.slice none 0 0) := tF_none hT
    repeat' (first | refine awp_seqK fun K hK => ?_ | (refine awp_regionK 4295000519 rfl ?_; simp only [List.map_cons, List.map_nil]; simp (maxSteps := 1000000) (dsimp := false) (implicitDefEqProofs := false) (disch := omega) only [wrap64, go_sem, rowF_app, hTF]) | (refine awp_regionQK 4295000519 (by kernel_rfl) (by kernel_rfl) (by kernel_rfl) ?_; simp only [List.map_cons, List.map_nil]; simp (maxSteps := 1000000) (dsimp := false) (implicitDefEqProofs := false) (disch := omega) only [wrap64, go_sem, rowF_app, hTF]) | refine awp_block ?_ | (refine awp_skip ?_; simp only [go_sem, rowF_app, hTF]) | (refine awp_exit ?_; simp only [go_sem, rowF_app, hTF]) | (refine awp_ret ?_; try simp only [go_sem, rowF_app, hTF]) | (refine awp_condP rfl ?_; try simp only [go_sem, rowF_app, hTF]) | (refine BrP.mk (fun h => ?_) (fun h => ?_) <;> try simp (dsimp := false) (disch := omega) only [wrap64]) | (refine Br.mk (fun h => ?_) (fun h => ?_) <;> try simp (dsimp := false) (disch := omega) only [wrap64]) | refine Ob.mk (by first | omega | (intro _ _; rfl) | trivial | (intros; trivial) | assumption | (intro i hi; have h0 : i = 0 := (by omega); subst h0; first | rfl | trivial) | (intro i hi; have h0 : i = 0 ∨ i = 1 := (by omega); rcases h0 with rfl | rfl <;> rfl) | (intro i hi; have h0 : i = 0 ∨ i = 1 ∨ i = 2 := (by omega); rcases h0 with rfl | rfl | rfl <;> rfl)) ?_ | apply_assumption -exfalso -symm)
    all_goals (first | (show endQ _ _ _ _ _ _ _; (repeat (rename (∀ (A : Fr) (H : Hp), AWP _ _ _ _ A H → _) => hK; clear hK)); (repeat (rename (Fr → Hp → Prop) => K; clear K))) | (show Exists _; (repeat (rename (∀ (A : Fr) (H : Hp), AWP _ _ _ _ A H → _) => hK; clear hK)); (repeat (rename (Fr → Hp → Prop) => K; clear K))) | skip)
    · exact end_retV' rfl rfl (by rw [he, hstep (by omega), hT])
    · exact end_retV' rfl rfl (by rw [he, show n - k = 0 by omega]; rfl)
  | some t =>
    have hTF : tF (C.T k) (q.getD k 0).toNat = .list false 1 t.length (cM iv 0 t) := tF_some hT
    have ht : k < n → Pm n t := fun h => (hw.t1 k _ t h hT).1
    have htl : k < n → t.length = n := fun h => (ht h).1
    have hnl := fun h : k < n => nil_no (htl h) (by omega)
    repeat' (first | refine awp_seqK fun K hK => ?_ | (refine awp_regionK 4295000519 rfl ?_; simp only [List.map_cons, List.map_nil]; simp (maxSteps := 1000000) (dsimp := false) (implicitDefEqProofs := false) (disch := omega) only [wrap64, go_sem, rowF_app, hTF, hnl]) | (refine awp_regionQK 4295000519 (by kernel_rfl) (by kernel_rfl) (by kernel_rfl) ?_; simp only [List.map_cons, List.map_nil]; simp (maxSteps := 1000000) (dsimp := false) (implicitDefEqProofs := false) (disch := omega) only [wrap64, go_sem, rowF_app, hTF, hnl]) | refine awp_block ?_ | (refine awp_skip ?_; simp only [go_sem, rowF_app, hTF, hnl]) | (refine awp_exit ?_; simp only [go_sem, rowF_app, hTF, hnl]) | (refine awp_ret ?_; try simp only [go_sem, rowF_app, hTF, hnl]) | (refine awp_condP rfl ?_; try simp only [go_sem, rowF_app, hTF, hnl]) | (refine BrP.mk (fun h => ?_) (fun h => ?_) <;> try simp (dsimp := false) (disch := omega) only [wrap64]) | (refine Br.mk (fun h => ?_) (fun h => ?_) <;> try simp (dsimp := false) (disch := omega) only [wrap64]) | refine Ob.mk (by first | omega | (intro _ _; rfl) | trivial | (intros; trivial) | assumption | (intro i hi; have h0 : i = 0 := (by omega); subst h0; first | rfl | trivial) | (intro i hi; have h0 : i = 0 ∨ i = 1 := (by omega); rcases h0 with rfl | rfl <;> rfl) | (intro i hi; have h0 : i = 0 ∨ i = 1 ∨ i = 2 := (by omega); rcases h0 with rfl | rfl | rfl <;> rfl)) ?_ | ((first | ((first | refine atF (f := 115) ?_ | refine atQ (f := 115) ?_); (first | (refine cFI (hac := implInverse_ok t (by omega) (by rw [htl (by omega)]; exact ht (by omega)) 9) (hK := ?_)) | (refine cQI (hac := implInverse_ok t (by omega) (by rw [htl (by omega)]; exact ht (by omega)) 9) (hK := ?_)))) | ((first | refine atF (f := 114) ?_ | refine atQ (f := 114) ?_); (first | (refine cFI (hac := implCompose_ok q (invp t) (by omega) (pm_lt hq (ht (by omega)).inv) 9) (hK := ?_)) | (refine cQI (hac := implCompose_ok q (invp t) (by omega) (pm_lt hq (ht (by omega)).inv) 9) (hK := ?_))))); simp (maxSteps := 1000000) (dsimp := false) (implicitDefEqProofs := false) (disch := omega) only [wrap64, go_sem, rowF_app, hTF, hnl]) | apply_assumption -exfalso -symm)
    all_goals (first | (show endQ _ _ _ _ _ _ _; (repeat (rename (∀ (A : Fr) (H : Hp), AWP _ _ _ _ A H → _) => hK; clear hK)); (repeat (rename (Fr → Hp → Prop) => K; clear K))) | (show Exists _; (repeat (rename (∀ (A : Fr) (H : Hp), AWP _ _ _ _ A H → _) => hK; clear hK)); (repeat (rename (Fr → Hp → Prop) => K; clear K))) | skip)
    · refine ⟨(k + 1, comp q (invp t)), ⟨by dsimp only; omega, hq.comp (ht (by omega)).inv, by rw [he, hstep (by omega), hT]⟩, by dsimp only; omega, Sub.toL (by simp only [go_sem] <;> first | trivial | (simp only [Option.some.injEq, AV.v.injEq, AV.own.injEq, AV.list.injEq, Value.int.injEq, Value.bool.injEq, true_and, and_true]; first | omega | (simp; done)) | (simp; done) | (simp; omega)) (Hp.le_emp _)⟩
    · exact end_retV' rfl rfl (by rw [he, show n - k = 0 by omega]; rfl)

/-- The points of an orbit below m, in order. -/
def orb (T : Nat → Option (List Int)) (m : Nat) : List Int := ((List.range m).filter fun y => (T y).isSome).map fun y : Nat => (y : Int)
theorem orb_succ (T : Nat → Option (List Int)) (m : Nat) : orb T (m + 1) = orb T m ++ (if (T m).isSome then [(m : Int)] else []) := by
  unfold orb
  rw [List.range_succ, List.filter_append, List.map_append]
  congr 1
  cases h : (T m).isSome <;> simp [h]
theorem orb_length (T : Nat → Option (List Int)) (m : Nat) : (orb T m).length ≤ m := by
  unfold orb
  rw [List.length_map]
  exact Nat.le_trans (List.length_filter_le _ _) (by simp)
theorem orb_mem {T : Nat → Option (List Int)} {m : Nat} {x : Int} : x ∈ orb T m ↔ ∃ y : Nat, y < m ∧ (T y).isSome = true ∧ x = (y : Int) := by
  unfold orb
  simp only [List.mem_map, List.mem_filter, List.mem_range]
  constructor
  · rintro ⟨y, ⟨h1, h2⟩, rfl⟩; exact ⟨y, h1, h2, rfl⟩
  · rintro ⟨y, h1, h2, rfl⟩; exact ⟨y, ⟨h1, h2⟩, rfl⟩

theorem orbitOf_ok (n : Nat) (T : Nat → Option (List Int)) (hn : n ≤ 20) (hT : ∀ y t, y < n → T y = some t → 0 < t.length) (d : Nat) : AC Tryz.prog 97 [.list false 1 n (tF T)] Hp.emp (fun _ => false) (retI d (orb T n)) := by
  refine ac_of_awp (N := ⟨_, fun _ => false, fun _ _ => rfl, true⟩) Tryz.func97 rfl (by kernel_rfl) Tryz.ntmps97 (by simp) ?_
  simp only [argsFr, List.zipIdx_cons, List.zipIdx_nil, go_sem]
  repeat' (first | refine awp_seqK fun K hK => ?_ | (refine awp_regionK 17405 rfl ?_; simp only [List.map_cons, List.map_nil]; simp (maxSteps := 1000000) (dsimp := false) (implicitDefEqProofs := false) (disch := omega) only [wrap64, go_sem]) | (refine awp_regionQK 17405 (by kernel_rfl) (by kernel_rfl) (by kernel_rfl) ?_; simp only [List.map_cons, List.map_nil]; simp (maxSteps := 1000000) (dsimp := false) (implicitDefEqProofs := false) (disch := omega) only [wrap64, go_sem]) | refine awp_block ?_ | (refine awp_skip ?_; simp only [go_sem]) | (refine awp_exit ?_; simp only [go_sem]) | (refine awp_ret ?_; try simp only [go_sem]) | (refine awp_condP rfl ?_; try simp only [go_sem]) | (refine BrP.mk (fun h => ?_) (fun h => ?_) <;> try simp (dsimp := false) (disch := omega) only [wrap64]) | (refine Br.mk (fun h => ?_) (fun h => ?_) <;> try simp (dsimp := false) (disch := omega) only [wrap64]) | refine Ob.mk (by first | omega | (intro _ _; rfl) | trivial | (intros; trivial) | assumption | (intro i hi; have h0 : i = 0 := (by omega); subst h0; first | rfl | trivial) | (intro i hi; have h0 : i = 0 ∨ i = 1 := (by omega); rcases h0 with rfl | rfl <;> rfl) | (intro i hi; have h0 : i = 0 ∨ i = 1 ∨ i = 2 := (by omega); rcases h0 with rfl | rfl | rfl <;> rfl)) ?_ | apply_assumption -exfalso -symm)
  all_goals (first | (show endQ _ _ _ _ _ _ _; (repeat (rename (∀ (A : Fr) (H : Hp), AWP _ _ _ _ A H → _) => hK; clear hK)); (repeat (rename (Fr → Hp → Prop) => K; clear K))) | (show Exists _; (repeat (rename (∀ (A : Fr) (H : Hp), AWP _ _ _ _ A H → _) => hK; clear hK)); (repeat (rename (Fr → Hp → Prop) => K; clear K))) | skip)
  refine awp_loop (ι := Nat) (fun k => [(8, .v (.int .i64 (k))), (7, .v (.int .i64 (n))), (6, .list false 1 n (tF T)), (3, .own 30 0 1 (orb T k).length)]) (fun k => Hp.emp.upd 30 (.cells (orb T k).length (cM iv 0 (orb T k)))) (fun k => k ≤ n) (fun k => n - k) 0 ?_ (Sub.trans (Sub.nil (i := 3) 30 1 (cM iv 0 []) rfl rfl) (Sub.toL (by simp only [go_sem] <;> first | trivial | (simp only [Option.some.injEq, AV.v.injEq, AV.own.injEq, AV.list.injEq, Value.int.injEq, Value.bool.injEq, true_and, and_true]; first | omega | (simp [orb]; done)) | (simp [orb]; done) | (simp [orb]; omega)) (by (repeat' (first | exact Hp.le_emp _ | exact Hp.le_refl _ | refine Hp.le_upd ?_ ?_)); all_goals (first | rfl | (simp only [go_sem]; first | rfl | (refine cellsE ?_ ?_ <;> (simp [orb])) | (simp [orb])))))) ?_
  · exact Nat.zero_le _
  intro k hk
  have hol := orb_length T k
  have hos := orb_succ T k
  cases hTk : T k with
  | none =>
    have hTF : tF T k = .v (.slice none 0 0) := tF_none hTk
    rw [hTk] at hos
    simp only [Option.isSome_none, Bool.false_eq_true, if_false, List.append_nil] at hos
    repeat' (first | refine awp_seqK fun K hK => ?_ | (refine awp_regionK 17405 rfl ?_; simp only [List.map_cons, List.map_nil]; simp (maxSteps := 1000000) (dsimp := false) (implicitDefEqProofs := false) (disch := omega) only [wrap64, go_sem, hTF]) | (refine awp_regionQK 17405 (by kernel_rfl) (by kernel_rfl) (by kernel_rfl) ?_; simp only [List.map_cons, List.map_nil]; simp (maxSteps := 1000000) (dsimp := false) (implicitDefEqProofs := false) (disch := omega) only [wrap64, go_sem, hTF]) | refine awp_block ?_ | (refine awp_skip ?_; simp only [go_sem, hTF]) | (refine awp_exit ?_; simp only [go_sem, hTF]) | (refine awp_ret ?_; try simp only [go_sem, hTF]) | (refine awp_condP rfl ?_; try simp only [go_sem, hTF]) | (refine BrP.mk (fun h => ?_) (fun h => ?_) <;> try simp (dsimp := false) (disch := omega) only [wrap64]) | (refine Br.mk (fun h => ?_) (fun h => ?_) <;> try simp (dsimp := false) (disch := omega) only [wrap64]) | refine Ob.mk (by first | omega | (intro _ _; rfl) | trivial | (intros; trivial) | assumption | (intro i hi; have h0 : i = 0 := (by omega); subst h0; first | rfl | trivial) | (intro i hi; have h0 : i = 0 ∨ i = 1 := (by omega); rcases h0 with rfl | rfl <;> rfl) | (intro i hi; have h0 : i = 0 ∨ i = 1 ∨ i = 2 := (by omega); rcases h0 with rfl | rfl | rfl <;> rfl)) ?_ | apply_assumption -exfalso -symm)
    all_goals (first | (show endQ _ _ _ _ _ _ _; (repeat (rename (∀ (A : Fr) (H : Hp), AWP _ _ _ _ A H → _) => hK; clear hK)); (repeat (rename (Fr → Hp → Prop) => K; clear K))) | (show Exists _; (repeat (rename (∀ (A : Fr) (H : Hp), AWP _ _ _ _ A H → _) => hK; clear hK)); (repeat (rename (Fr → Hp → Prop) => K; clear K))) | skip)
    · refine ⟨k + 1, ?_, ?_, Sub.toL (by simp only [go_sem] <;> first | trivial | (simp only [Option.some.injEq, AV.v.injEq, AV.own.injEq, AV.list.injEq, Value.int.injEq, Value.bool.injEq, true_and, and_true]; first | omega | (simp [hos, List.length_append]; done)) | (simp [hos, List.length_append]; done) | (simp [hos, List.length_append]; omega)) (by (repeat' (first | exact Hp.le_emp _ | exact Hp.le_refl _ | refine Hp.le_upd ?_ ?_)); all_goals (first | rfl | (simp only [go_sem]; first | rfl | (refine cellsE ?_ ?_ <;> (first | omega | (rw [hos]; simp) | (rw [hos]))) | (first | omega | (rw [hos]; simp) | (rw [hos])))))⟩
      all_goals omega
    · have e : k = n := by omega
      subst e
      exact end_retI' rfl rfl rfl rfl rfl rfl
  | some t =>
    have hTF : tF T k = .list false 1 t.length (cM iv 0 t) := tF_some hTk
    rw [hTk] at hos
    simp only [Option.isSome_some, if_true] at hos
    have hnl := fun h : k < n => nil_no (n := t.length) rfl (hT k t h hTk)
    repeat' (first | refine awp_seqK fun K hK => ?_ | (refine awp_regionK 17405 rfl ?_; simp only [List.map_cons, List.map_nil]; simp (maxSteps := 1000000) (dsimp := false) (implicitDefEqProofs := false) (disch := omega) only [wrap64, go_sem, hTF, hnl]) | (refine awp_regionQK 17405 (by kernel_rfl) (by kernel_rfl) (by kernel_rfl) ?_; simp only [List.map_cons, List.map_nil]; simp (maxSteps := 1000000) (dsimp := false) (implicitDefEqProofs := false) (disch := omega) only [wrap64, go_sem, hTF, hnl]) | refine awp_block ?_ | (refine awp_skip ?_; simp only [go_sem, hTF, hnl]) | (refine awp_exit ?_; simp only [go_sem, hTF, hnl]) | (refine awp_ret ?_; try simp only [go_sem, hTF, hnl]) | (refine awp_condP rfl ?_; try simp only [go_sem, hTF, hnl]) | (refine BrP.mk (fun h => ?_) (fun h => ?_) <;> try simp (dsimp := false) (disch := omega) only [wrap64]) | (refine Br.mk (fun h => ?_) (fun h => ?_) <;> try simp (dsimp := false) (disch := omega) only [wrap64]) | refine Ob.mk (by first | omega | (intro _ _; rfl) | trivial | (intros; trivial) | assumption | (intro i hi; have h0 : i = 0 := (by omega); subst h0; first | rfl | trivial) | (intro i hi; have h0 : i = 0 ∨ i = 1 := (by omega); rcases h0 with rfl | rfl <;> rfl) | (intro i hi; have h0 : i = 0 ∨ i = 1 ∨ i = 2 := (by omega); rcases h0 with rfl | rfl | rfl <;> rfl)) ?_ | apply_assumption -exfalso -symm)
    all_goals (first | (show endQ _ _ _ _ _ _ _; (repeat (rename (∀ (A : Fr) (H : Hp), AWP _ _ _ _ A H → _) => hK; clear hK)); (repeat (rename (Fr → Hp → Prop) => K; clear K))) | (show Exists _; (repeat (rename (∀ (A : Fr) (H : Hp), AWP _ _ _ _ A H → _) => hK; clear hK)); (repeat (rename (Fr → Hp → Prop) => K; clear K))) | skip)
    · refine ⟨k + 1, ?_, ?_, Sub.toL (by simp only [go_sem] <;> first | trivial | (simp only [Option.some.injEq, AV.v.injEq, AV.own.injEq, AV.list.injEq, Value.int.injEq, Value.bool.injEq, true_and, and_true]; first | omega | (simp [hos, List.length_append]; done)) | (simp [hos, List.length_append]; done) | (simp [hos, List.length_append]; omega)) (by (repeat' (first | exact Hp.le_emp _ | exact Hp.le_refl _ | refine Hp.le_upd ?_ ?_)); all_goals (first | rfl | (simp only [go_sem]; first | rfl | (refine cellsE ?_ ?_ <;> (first | omega | (rw [hos]; simp) | (rw [hos]))) | (first | omega | (rw [hos]; simp) | (rw [hos])))))⟩
      all_goals omega
      all_goals omega
    · have e : k = n := by omega
      subst e
      exact end_retI' rfl rfl rfl rfl rfl rfl

end Go.Proofs.YtpffmolibjimgaaGreatDoor
end
