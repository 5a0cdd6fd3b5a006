/- Chains of stabilizers: what they hold, and how many. -/
import Derived.Test.YtfgblelbhlpfjaaG1
namespace Go.Pm

structure Ch where
  S : Nat → List (List Int)
  T : Nat → Nat → Option (List Int)

/-- The points before i stay. -/
def fixB (i : Nat) (p : List Int) : Prop := ∀ j, j < i → img p j = j

/-- Sifting: k levels from level i on. -/
def Ch.has (C : Ch) : Nat → Nat → List Int → Bool
  | 0, _, _ => true
  | k + 1, i, p => match C.T i (img p i) with
    | none => false
    | some t => C.has k (i + 1) (comp p (invp t))

structure Ch.WF (C : Ch) (n : Nat) : Prop where
  t1 : ∀ i y t, i < n → C.T i y = some t → Pm n t ∧ fixB i t ∧ img t i = y
  t0 : ∀ i, i < n → C.T i i = some (idn n)
  s1 : ∀ i g, g ∈ C.S i → Pm n g ∧ fixB i g

/-- The level j is done. -/
structure Ch.Ok (C : Ch) (n j : Nat) : Prop where
  cl : ∀ y t g, C.T j y = some t → g ∈ C.S j → ∃ u, C.T j (img g y) = some u ∧ C.has (n - (j + 1)) (j + 1) (comp (comp t g) (invp u)) = true
  tg : ∀ y t, C.T j y = some t → Gen n (C.S j) t
  sg : ∀ g, g ∈ C.S (j + 1) → Gen n (C.S j) g

def Ch.Full (C : Ch) (n i : Nat) : Prop := ∀ j, i ≤ j → j < n → C.Ok n j

theorem fixB.idn (n i : Nat) (h : i ≤ n) : fixB i (idn n) := fun j hj => img_idn (by omega)
theorem fixB.comp {n i : Nat} {p q : List Int} (hp : Pm n p) (hi : i ≤ n) (h : fixB i p) (k : fixB i q) : fixB i (comp p q) := fun j hj => by
  rw [hp.cimg (by omega), h j hj, k j hj]
theorem fixB.inv {n i : Nat} {p : List Int} (hp : Pm n p) (hi : i ≤ n) (h : fixB i p) : fixB i (invp p) := fun j hj => by
  have := hp.img_inv (i := j) (by omega)
  rwa [h j hj] at this
/-- A quotient that fixes one point more. -/
theorem fixB.quot {n i : Nat} {p t : List Int} (hp : Pm n p) (ht : Pm n t) (hi : i < n) (h : fixB i p) (k : fixB i t) (e : img t i = img p i) : fixB (i + 1) (Go.Pm.comp p (invp t)) := fun j hj => by
  by_cases hji : j = i
  · subst hji
    rw [hp.cimg hi, ← e, ht.img_inv hi]
  · exact fixB.comp hp (by omega) h (k.inv ht (by omega)) j (by omega)
theorem fixB.all {n : Nat} {p : List Int} (hp : Pm n p) (h : fixB n p) : p = Go.Pm.idn n :=
  hp.ext_img (.idn n) fun i hi => by rw [h i hi, img_idn hi]

section
variable {C C' : Ch} {n : Nat}

theorem Ch.WF.gpm (w : C.WF n) (i : Nat) : ∀ g ∈ C.S i, Pm n g := fun g hg => (w.s1 i g hg).1

theorem Gen.fix {n i : Nat} {S : List (List Int)} {p : List Int} (hi : i ≤ n) (hS : ∀ g ∈ S, Pm n g ∧ fixB i g) (h : Gen n S p) : fixB i p := by
  induction h with
  | one => exact .idn n i hi
  | mul h hg ih => exact fixB.comp (h.pm fun g hg => (hS g hg).1) hi ih (hS _ hg).2

/-- What a full chain holds is what its generators generate. -/
theorem Ch.has_iff (w : C.WF n) : ∀ (k i : Nat), i + k = n → C.Full n i → ∀ p, Pm n p → fixB i p → (C.has k i p = true ↔ Gen n (C.S i) p)
  | 0, i, hi, _, p, hp, hf => by
    have : i = n := by omega
    subst this
    rw [hf.all hp]
    exact ⟨fun _ => .one, fun _ => rfl⟩
  | k + 1, i, hi, hF, p, hp, hf => by
    have hin : i < n := by omega
    have ih := Ch.has_iff w k (i + 1) (by omega) (fun j h1 h2 => hF j (by omega) h2)
    have hok := hF i (Nat.le_refl _) hin
    have e : n - (i + 1) = k := by omega
    have hq : ∀ q t, Pm n q → fixB i q → C.T i (img q i) = some t → Pm n (comp q (invp t)) ∧ fixB (i + 1) (comp q (invp t)) := fun q t hq hfq ht => by
      obtain ⟨h1, h2, h3⟩ := w.t1 i _ t hin ht
      exact ⟨hq.comp h1.inv, fixB.quot hq h1 hin hfq h2 h3⟩
    constructor
    · intro h
      simp only [Ch.has] at h
      split at h
      · cases h
      · rename_i t ht
        obtain ⟨h1, h2⟩ := hq p t hp hf ht
        have h3 := (ih _ h1 h2).1 h
        have h4 : Gen n (C.S i) (comp p (invp t)) := h3.sub (w.gpm i) hok.sg
        have := h4.prod (w.gpm i) (hok.tg _ t ht)
        rwa [hp.cancel' (w.t1 i _ t hin ht).1] at this
    · intro h
      clear hp hf
      induction h with
      | one =>
        simp only [Ch.has]
        rw [img_idn hin, w.t0 i hin]
        simp only
        rw [(Pm.idn n).comp_inv]
        exact (ih _ (.idn n) (.idn n _ (by omega))).2 .one
      | @mul p g h hg ihp =>
        have hp : Pm n p := h.pm (w.gpm i)
        have hf : fixB i p := h.fix (by omega) (w.s1 i)
        obtain ⟨gp, gf⟩ := w.s1 i g hg
        simp only [Ch.has] at ihp ⊢
        rw [hp.cimg hin]
        split at ihp
        · cases ihp
        · rename_i t ht
          obtain ⟨u, hu, hs⟩ := hok.cl _ t g ht hg
          rw [e] at hs
          rw [hu]
          simp only
          obtain ⟨t1, t2, t3⟩ := w.t1 i _ t hin ht
          obtain ⟨u1, u2, u3⟩ := w.t1 i _ u hin hu
          obtain ⟨a1, a2⟩ := hq p t hp hf ht
          have b1 : Pm n (comp (comp t g) (invp u)) := (t1.comp gp).comp u1.inv
          have b2 : fixB (i + 1) (comp (comp t g) (invp u)) := fixB.quot (t1.comp gp) u1 hin (t2.comp t1 (by omega) gf) u2 (by rw [u3, t1.cimg hin, t3])
          have c1 := (ih _ a1 a2).1 ihp
          have c2 := (ih _ b1 b2).1 hs
          have c3 := c1.prod (w.gpm (i + 1)) c2
          have eq : comp (comp p (invp t)) (comp (comp t g) (invp u)) = comp (comp p g) (invp u) := by
            rw [← (hp.comp t1.inv).assoc (t1.comp gp) u1.inv, ← (hp.comp t1.inv).assoc t1 gp, hp.cancel' t1]
          rw [eq] at c3
          have d1 : Pm n (comp (comp p g) (invp u)) := (hp.comp gp).comp u1.inv
          have d2 : fixB (i + 1) (comp (comp p g) (invp u)) := fixB.quot (hp.comp gp) u1 hin (hf.comp hp (by omega) gf) u2 (by rw [u3, hp.cimg hin])
          exact (ih _ d1 d2).2 c3

/-- What a chain holds, a chain of more generators holds. -/
theorem Ch.has_mono (w : C.WF n) (w' : C'.WF n) {k i : Nat} (hi : i + k = n) (hF : C.Full n i) (hF' : C'.Full n i) (hs : ∀ g, g ∈ C.S i → g ∈ C'.S i) {p : List Int} (hp : Pm n p) (hf : fixB i p) (h : C.has k i p = true) : C'.has k i p = true :=
  (Ch.has_iff w' k i hi hF' p hp hf).2 (((Ch.has_iff w k i hi hF p hp hf).1 h).mono hs)

/-- Sifting looks at the levels from i on alone. -/
theorem Ch.has_congr : ∀ (k i : Nat) (p : List Int), (∀ j, i ≤ j → C'.T j = C.T j) → C'.has k i p = C.has k i p
  | 0, _, _, _ => rfl
  | k + 1, i, p, h => by
    simp only [Ch.has]
    rw [h i (Nat.le_refl _)]
    cases C.T i (img p i) with
    | none => rfl
    | some t => exact Ch.has_congr k (i + 1) _ fun j hj => h j (by omega)

/-- How many points the orbit of level i has. -/
def Ch.cnt (C : Ch) (n i : Nat) : Nat := (List.range n).countP fun y => (C.T i y).isSome
def Ch.ord (C : Ch) (n : Nat) : Nat → Nat → Nat
  | 0, _ => 1
  | k + 1, i => C.cnt n i * C.ord n k (i + 1)
def Ch.enum (C : Ch) (n : Nat) : Nat → Nat → List (List Int)
  | 0, _ => [idn n]
  | k + 1, i => (List.range n).flatMap fun y => match C.T i y with
    | none => []
    | some t => (C.enum n k (i + 1)).map fun p => comp p t

theorem Ch.enum_mem (w : C.WF n) : ∀ (k i : Nat), i + k = n → ∀ p, p ∈ C.enum n k i ↔ (Pm n p ∧ fixB i p ∧ C.has k i p = true)
  | 0, i, hi, p => by
    have : i = n := by omega
    subst this
    simp only [Ch.enum, List.mem_singleton, Ch.has, and_true]
    exact ⟨fun h => by rw [h]; exact ⟨.idn _, .idn _ _ (Nat.le_refl _)⟩, fun h => h.2.all h.1⟩
  | k + 1, i, hi, p => by
    have hin : i < n := by omega
    have ih := Ch.enum_mem w k (i + 1) (by omega)
    simp only [Ch.enum, List.mem_flatMap, List.mem_range]
    constructor
    · rintro ⟨y, hy, h⟩
      split at h
      · cases h
      · rename_i t ht
        obtain ⟨q, hq, rfl⟩ := List.mem_map.1 h
        obtain ⟨q1, q2, q3⟩ := (ih q).1 hq
        obtain ⟨t1, t2, t3⟩ := w.t1 i y t hin ht
        refine ⟨q1.comp t1, fixB.comp q1 (by omega) (fun j hj => q2 j (by omega)) t2, ?_⟩
        simp only [Ch.has]
        rw [q1.cimg hin, q2 i (by omega), t3, ht]
        simp only
        rw [q1.cancel t1]; exact q3
    · rintro ⟨h1, h2, h3⟩
      refine ⟨img p i, h1.img_lt hin, ?_⟩
      simp only [Ch.has] at h3
      split at h3
      · cases h3
      · rename_i t ht
        obtain ⟨t1, t2, t3⟩ := w.t1 i _ t hin ht
        first | rw [ht] | skip
        exact List.mem_map.2 ⟨comp p (invp t), (ih _).2 ⟨h1.comp t1.inv, fixB.quot h1 t1 hin h2 t2 t3, h3⟩, h1.cancel' t1⟩

theorem Ch.enum_nodup (w : C.WF n) : ∀ (k i : Nat), i + k = n → (C.enum n k i).Nodup
  | 0, _, _ => by simp [Ch.enum]
  | k + 1, i, hi => by
    have hin : i < n := by omega
    have ih := Ch.enum_nodup w k (i + 1) (by omega)
    have im := Ch.enum_mem w k (i + 1) (by omega)
    rw [Ch.enum, List.nodup_iff_pairwise_ne, List.pairwise_flatMap]
    refine ⟨fun y hy => ?_, ?_⟩
    · split
      · exact List.Pairwise.nil
      · rename_i t ht
        rw [List.pairwise_map]
        refine List.Pairwise.imp_of_mem (R := fun a b => a ≠ b) ?_ (List.nodup_iff_pairwise_ne.1 ih)
        intro a b ha hb hne e
        exact hne (((im a).1 ha).1.right_inj ((im b).1 hb).1 (w.t1 i y t hin ht).1 e)
    · refine List.Pairwise.imp_of_mem (R := fun a b => a ≠ b) ?_ (List.nodup_iff_pairwise_ne.1 List.nodup_range)
      intro a b _ _ hne x hx y hy e
      split at hx
      · cases hx
      · rename_i t ht
        split at hy
        · cases hy
        · rename_i u hu
          obtain ⟨q, hq, rfl⟩ := List.mem_map.1 hx
          obtain ⟨r, hr, rfl⟩ := List.mem_map.1 hy
          obtain ⟨q1, q2, _⟩ := (im q).1 hq
          obtain ⟨r1, r2, _⟩ := (im r).1 hr
          have h1 := congrArg (fun p => img p i) e
          rw [q1.cimg hin, r1.cimg hin, q2 i (by omega), r2 i (by omega), (w.t1 i a t hin ht).2.2, (w.t1 i b u hin hu).2.2] at h1
          exact hne h1

theorem Ch.enum_length : ∀ (k i : Nat), (C.enum n k i).length = C.ord n k i
  | 0, _ => rfl
  | k + 1, i => by
    have ih := Ch.enum_length k (i + 1)
    have key : ∀ l : List Nat, (l.flatMap fun y => match C.T i y with
      | none => []
      | some t => (C.enum n k (i + 1)).map fun p => comp p t).length = (l.countP fun y => (C.T i y).isSome) * C.ord n k (i + 1) := by
      intro l
      induction l with
      | nil => simp
      | cons y l ihl =>
        rw [List.flatMap_cons, List.length_append, ihl, List.countP_cons]
        cases C.T i y with
        | none => simp
        | some t => simp [ih, Nat.add_mul, Nat.add_comm]
    simpa [Ch.enum, Ch.ord, Ch.cnt] using key (List.range n)

/-- The members of the group, each once. -/
theorem Ch.members (w : C.WF n) (hF : C.Full n 0) : ∃ L : List (List Int), L.Nodup ∧ L.length = C.ord n n 0 ∧ ∀ p, p ∈ L ↔ Gen n (C.S 0) p := by
  refine ⟨C.enum n n 0, Ch.enum_nodup w n 0 (by omega), Ch.enum_length n 0, fun p => ?_⟩
  rw [Ch.enum_mem w n 0 (by omega)]
  constructor
  · rintro ⟨h1, h2, h3⟩
    exact (Ch.has_iff w n 0 (by omega) hF p h1 h2).1 h3
  · intro h
    have hp := h.pm (w.gpm 0)
    have hf : fixB 0 p := fun j hj => by omega
    exact ⟨hp, hf, (Ch.has_iff w n 0 (by omega) hF p hp hf).2 h⟩

def fact : Nat → Nat
  | 0 => 1
  | k + 1 => (k + 1) * fact k

theorem Ch.cnt_le (w : C.WF n) {i : Nat} (hi : i < n) : C.cnt n i ≤ n - i := by
  have h1 : ∀ y, y < i → (C.T i y).isSome = false := by
    intro y hy
    cases ht : C.T i y with
    | none => rfl
    | some t =>
      obtain ⟨t1, t2, t3⟩ := w.t1 i y t hi ht
      have := t1.inj (i := i) (j := y) hi (by omega) (by rw [t3, t2 y hy])
      omega
  have h2 : (List.range n) = List.range i ++ (List.range (n - i)).map (i + ·) := by
    rw [← List.range_add]; congr 1; omega
  unfold Ch.cnt
  rw [h2, List.countP_append]
  have h3 : (List.range i).countP (fun y => (C.T i y).isSome) = 0 := by
    rw [List.countP_eq_zero]
    intro y hy
    simp [h1 y (by simpa using hy)]
  have h4 : ((List.range (n - i)).map (i + ·)).countP (fun y => (C.T i y).isSome) ≤ n - i := by
    have := List.countP_le_length (p := fun y => (C.T i y).isSome) (l := (List.range (n - i)).map (i + ·))
    simpa using this
  omega
theorem Ch.ord_le (w : C.WF n) : ∀ (k i : Nat), i + k = n → C.ord n k i ≤ fact k
  | 0, _, _ => Nat.le_refl _
  | k + 1, i, hi => by
    have h1 := Ch.cnt_le w (i := i) (by omega)
    have h2 := Ch.ord_le w k (i + 1) (by omega)
    rw [show n - i = k + 1 by omega] at h1
    exact Nat.mul_le_mul h1 h2
theorem fact_mono {k m : Nat} (h : k ≤ m) : fact k ≤ fact m := by
  induction m with
  | zero => rw [show k = 0 by omega]; exact Nat.le_refl _
  | succ m ih =>
    by_cases e : k = m + 1
    · rw [e]; exact Nat.le_refl _
    · have := ih (by omega)
      have h2 : fact m ≤ (m + 1) * fact m := by
        have := Nat.mul_le_mul_right (fact m) (show 1 ≤ m + 1 by omega)
        omega
      exact Nat.le_trans this h2
theorem fact_20 : fact 20 = 2432902008176640000 := by decide

end

/-- In a finite set that right multiplication leaves, inverses can be reached. -/
theorem Gen.inv_mem {n : Nat} {S L : List (List Int)} (hS : ∀ g ∈ S, Pm n g) (hL : ∀ p, p ∈ L ↔ Gen n S p) (hn : L.Nodup) {g : List Int} (hg : Gen n S g) : Gen n S (invp g) := by
  have gp := hg.pm hS
  have h1 : (L.map fun p => comp p g).Nodup := by
    rw [List.nodup_iff_pairwise_ne, List.pairwise_map]
    refine List.Pairwise.imp_of_mem (R := fun a b => a ≠ b) ?_ (List.nodup_iff_pairwise_ne.1 hn)
    intro a b ha hb hne e
    exact hne ((((hL a).1 ha).pm hS).right_inj (((hL b).1 hb).pm hS) gp e)
  have h2 : ∀ x ∈ (L.map fun p => comp p g), x ∈ L := by
    intro x hx
    obtain ⟨p, hp, rfl⟩ := List.mem_map.1 hx
    exact (hL _).2 (((hL p).1 hp).prod hS hg)
  have h3 : idn n ∈ (L.map fun p => comp p g) := by
    refine Classical.byContradiction fun hc => ?_
    have := Go.Plain.nodup_le L (idn n :: L.map fun p => comp p g) (List.nodup_cons.2 ⟨hc, h1⟩) (fun x hx => by
      simp only [List.mem_cons] at hx
      rcases hx with rfl | hx
      · exact (hL _).2 .one
      · exact h2 x hx)
    simp at this
    omega
  obtain ⟨p, hp, e⟩ := List.mem_map.1 h3
  have := ((hL p).1 hp)
  rwa [(this.pm hS).inv_of_comp gp e] at this
end Go.Pm
