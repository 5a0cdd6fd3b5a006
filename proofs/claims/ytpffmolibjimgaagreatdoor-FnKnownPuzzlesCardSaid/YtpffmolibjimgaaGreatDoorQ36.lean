import Derived.Test.YtpffmolibjimgaaGreatDoorQ16
/- Chains of stabilizers: what they hold, and how many. -/
section
namespace Go.Pm

structure Ch where
  S : Nat → List (List Int)
  T : Nat → Nat → Option (List Int)

/-- The points before i stay. -/
def fixB (i : Nat) (p : List Int) : Prop := ∀ j, j < i → img p j = j

/-- Sifting: k levels from level i on. -/
def Ch.has (C : Ch) : Nat → Nat → List Int → Bool
  | 0, _, _ => true
  | k + 1, i, p => match C.T i (img p i) with
    | none => false
    | some t => C.has k (i + 1) (comp p (invp t))

structure Ch.WF (C : Ch) (n : Nat) : Prop where
  t1 : ∀ i y t, i < n → C.T i y = some t → Pm n t ∧ fixB i t ∧ img t i = y
  t0 : ∀ i, i < n → C.T i i = some (idn n)
  s1 : ∀ i g, g ∈ C.S i → Pm n g ∧ fixB i g

/-- The level j is done. -/
structure Ch.Ok (C : Ch) (n j : Nat) : Prop where
  cl : ∀ y t g, C.T j y = some t → g ∈ C.S j → ∃ u, C.T j (img g y) = some u ∧ C.has (n - (j + 1)) (j + 1) (comp (comp t g) (invp u)) = true
  tg : ∀ y t, C.T j y = some t → Gen n (C.S j) t
  sg : ∀ g, g ∈ C.S (j + 1) → Gen n (C.S j) g

def Ch.Full (C : Ch) (n i : Nat) : Prop := ∀ j, i ≤ j → j < n → C.Ok n j

theorem fixB.idn (n i : Nat) (h : i ≤ n) : fixB i (idn n) := fun j hj => img_idn (by omega)
theorem fixB.comp {n i : Nat} {p q : List Int} (hp : Pm n p) (hi : i ≤ n) (h : fixB i p) (k : fixB i q) : fixB i (comp p q) := fun j hj => by
  rw [hp.cimg (by omega), h j hj, k j hj]
theorem fixB.inv {n i : Nat} {p : List Int} (hp : Pm n p) (hi : i ≤ n) (h : fixB i p) : fixB i (invp p) := fun j hj => by
  have := hp.img_inv (i := j) (by omega)
  rwa [h j hj] at this
/-- A quotient that fixes one point more. -/
theorem fixB.quot {n i : Nat} {p t : List Int} (hp : Pm n p) (ht : Pm n t) (hi : i < n) (h : fixB i p) (k : fixB i t) (e : img t i = img p i) : fixB (i + 1) (Go.Pm.comp p (invp t)) := fun j hj => by
  by_cases hji : j = i
  · subst hji
    rw [hp.cimg hi, ← e, ht.img_inv hi]
  · exact fixB.comp hp (by omega) h (k.inv ht (by omega)) j (by omega)
theorem fixB.all {n : Nat} {p : List Int} (hp : Pm n p) (h : fixB n p) : p = Go.Pm.idn n :=
  hp.ext_img (.idn n) fun i hi => by rw [h i hi, img_idn hi]

section
variable {C C' : Ch} {n : Nat}

theorem Ch.WF.gpm (w : C.WF n) (i : Nat) : ∀ g ∈ C.S i, Pm n g := fun g hg => (w.s1 i g hg).1

theorem Gen.fix {n i : Nat} {S : List (List Int)} {p : List Int} (hi : i ≤ n) (hS : ∀ g ∈ S, Pm n g ∧ fixB i g) (h : Gen n S p) : fixB i p := by
  induction h with
  | one => exact .idn n i hi
  | mul h hg ih => exact fixB.comp (h.pm fun g hg => (hS g hg).1) hi ih (hS _ hg).2

/-- What a full chain holds is what its generators generate. -/
theorem Ch.has_iff (w : C.WF n) : ∀ (k i : Nat), i + k = n → C.Full n i → ∀ p, Pm n p → fixB i p → (C.has k i p = true ↔ Gen n (C.S i) p)
  | 0, i, hi, _, p, hp, hf => by
    have : i = n := by omega
    subst this
    rw [hf.all hp]
    exact ⟨fun _ => .one, fun _ => rfl⟩
  | k + 1, i, hi, hF, p, hp, hf => by
    have hin : i < n := by omega
    have ih := Ch.has_iff w k (i + 1) (by omega) (fun j h1 h2 => hF j (by omega) h2)
    have hok := hF i (Nat.le_refl _) hin
    have e : n - (i + 1) = k := by omega
    have hq : ∀ q t, Pm n q → fixB i q → C.T i (img q i) = some t → Pm n (comp q (invp t)) ∧ fixB (i + 1) (comp q (invp t)) := fun q t hq hfq ht => by
      obtain ⟨h1, h2, h3⟩ := w.t1 i _ t hin ht
      exact ⟨hq.comp h1.inv, fixB.quot hq h1 hin hfq h2 h3⟩
    constructor
    · intro h
      simp only [Ch.has] at h
      split at h
      · cases h
      · rename_i t ht
        obtain ⟨h1, h2⟩ := hq p t hp hf ht
        have h3 := (ih _ h1 h2).1 h
        have h4 : Gen n (C.S i) (comp p (invp t)) := h3.sub (w.gpm i) hok.sg
        have := h4.prod (w.gpm i) (hok.tg _ t ht)
        rwa [hp.cancel' (w.t1 i _ t hin ht).1] at this
    · intro h
      clear hp hf
      induction h with
      | one =>
        simp only [Ch.has]
        rw [img_idn hin, w.t0 i hin]
        simp only
        rw [(Pm.idn n).comp_inv]
        exact (ih _ (.idn n) (.idn n _ (by omega))).2 .one
      | @mul p g h hg ihp =>
        have hp : Pm n p := h.pm (w.gpm i)
        have hf : fixB i p := h.fix (by omega) (w.s1 i)
        obtain ⟨gp, gf⟩ := w.s1 i g hg
        simp only [Ch.has] at ihp ⊢
        rw [hp.cimg hin]
        split at ihp
        · cases ihp
        · rename_i t ht
          obtain ⟨u, hu, hs⟩ := hok.cl _ t g ht hg
          rw [e] at hs
          rw [hu]
          simp only
          obtain ⟨t1, t2, t3⟩ := w.t1 i _ t hin ht
          obtain ⟨u1, u2, u3⟩ := w.t1 i _ u hin hu
          obtain ⟨a1, a2⟩ := hq p t hp hf ht
          have b1 : Pm n (comp (comp t g) (invp u)) := (t1.comp gp).comp u1.inv
          have b2 : fixB (i + 1) (comp (comp t g) (invp u)) := fixB.quot (t1.comp gp) u1 hin (t2.comp t1 (by omega) gf) u2 (by rw [u3, t1.cimg hin, t3])
          have c1 := (ih _ a1 a2).1 ihp
          have c2 := (ih _ b1 b2).1 hs
          have c3 := c1.prod (w.gpm (i + 1)) c2
          have eq : comp (comp p (invp t)) (comp (comp t g) (invp u)) = comp (comp p g) (invp u) := by
            rw [← (hp.comp t1.inv).assoc (t1.comp gp) u1.inv, ← (hp.comp t1.inv).assoc t1 gp, hp.cancel' t1]
          rw [eq] at c3
          have d1 : Pm n (comp (comp p g) (invp u)) := (hp.comp gp).comp u1.inv
          have d2 : fixB (i + 1) (comp (comp p g) (invp u)) := fixB.quot (hp.comp gp) u1 hin (hf.comp hp (by omega) gf) u2 (by rw [u3, hp.cimg hin])
          exact (ih _ d1 d2).2 c3

/-- What a chain holds, a chain of more generators holds. -/
theorem Ch.has_mono (w : C.WF n) (w' : C'.WF n) {k i : Nat} (hi : i + k = n) (hF : C.Full n i) (hF' : C'.Full n i) (hs : ∀ g, g ∈ C.S i → g ∈ C'.S i) {p : List Int} (hp : Pm n p) (hf : fixB i p) (h : C.has k i p = true) : C'.has k i p = true :=
  (Ch.has_iff w' k i hi hF' p hp hf).2 (((Ch.has_iff w k i hi hF p hp hf).1 h).mono hs)

/-- Sifting looks at the levels from i on alone. -/
theorem Ch.has_congr : ∀ (k i : Nat) (p : List Int), (∀ j, i ≤ j → C'.T j = C.T j) → C'.has k i p = C.has k i p
  | 0, _, _, _ => rfl
  | k + 1, i, p, h => by
    simp only [Ch.has]
    rw [h i (Nat.le_refl _)]
    cases C.T i (img p i) with
    | none => rfl
    | some t => exact Ch.has_congr k (i + 1) _ fun j hj => h j (by omega)

/-- How many points the orbit of level i has. -/
def Ch.cnt (C : Ch) (n i : Nat) : Nat := (List.range n).countP fun y => (C.T i y).isSome
def Ch.ord (C : Ch) (n : Nat) : Nat → Nat → Nat
  | 0, _ => 1
  | k + 1, i => C.cnt n i * C.ord n k (i + 1)
def Ch.enum (C : Ch) (n : Nat) : Nat → Nat → List (List Int)
  | 0, _ => [idn n]
  | k + 1, i => (List.range n).flatMap fun y => match C.T i y with
    | none => []
    | some t => (C.enum n k (i + 1)).map fun p => comp p t

theorem Ch.enum_mem (w : C.WF n) : ∀ (k i : Nat), i + k = n → ∀ p, p ∈ C.enum n k i ↔ (Pm n p ∧ fixB i p ∧ C.has k i p = true)
  | 0, i, hi, p => by
    have : i = n := by omega
    subst this
    simp only [Ch.enum, List.mem_singleton, Ch.has, and_true]
    exact ⟨fun h => by rw [h]; exact ⟨.idn _, .idn _ _ (Nat.le_refl _)⟩, fun h => h.2.all h.1⟩
  | k + 1, i, hi, p => by
    have hin : i < n := by omega
    have ih := Ch.enum_mem w k (i + 1) (by omega)
    simp only [Ch.enum, List.mem_flatMap, List.mem_range]
    constructor
    · rintro ⟨y, hy, h⟩
      split at h
      · cases h
      · rename_i t ht
        obtain ⟨q, hq, rfl⟩ := List.mem_map.1 h
        obtain ⟨q1, q2, q3⟩ := (ih q).1 hq
        obtain ⟨t1, t2, t3⟩ := w.t1 i y t hin ht
        refine ⟨q1.comp t1, fixB.comp q1 (by omega) (fun j hj => q2 j (by omega)) t2, ?_⟩
        simp only [Ch.has]
        rw [q1.cimg hin, q2 i (by omega), t3, ht]
        simp only
        rw [q1.cancel t1]; exact q3
    · rintro ⟨h1, h2, h3⟩
      refine ⟨img p i, h1.img_lt hin, ?_⟩
      simp only [Ch.has] at h3
      split at h3
      · cases h3
      · rename_i t ht
        obtain ⟨t1, t2, t3⟩ := w.t1 i _ t hin ht
        first | rw [ht] | skip
        exact List.mem_map.2 ⟨comp p (invp t), (ih _).2 ⟨h1.comp t1.inv, fixB.quot h1 t1 hin h2 t2 t3, h3⟩, h1.cancel' t1⟩

theorem Ch.enum_nodup (w : C.WF n) : ∀ (k i : Nat), i + k = n → (C.enum n k i).Nodup
  | 0, _, _ => by simp [Ch.enum]
  | k + 1, i, hi => by
    have hin : i < n := by omega
    have ih := Ch.enum_nodup w k (i + 1) (by omega)
    have im := Ch.enum_mem w k (i + 1) (by omega)
    rw [Ch.enum, List.nodup_iff_pairwise_ne, List.pairwise_flatMap]
    refine ⟨fun y hy => ?_, ?_⟩
    · split
      · exact List.Pairwise.nil
      · rename_i t ht
        rw [List.pairwise_map]
        refine List.Pairwise.imp_of_mem (R := fun a b => a ≠ b) ?_ (List.nodup_iff_pairwise_ne.1 ih)
        intro a b ha hb hne e
        exact hne (((im a).1 ha).1.right_inj ((im b).1 hb).1 (w.t1 i y t hin ht).1 e)
    · refine List.Pairwise.imp_of_mem (R := fun a b => a ≠ b) ?_ (List.nodup_iff_pairwise_ne.1 List.nodup_range)
      intro a b _ _ hne x hx y hy e
      split at hx
      · cases hx
      · rename_i t ht
        split at hy
        · cases hy
        · rename_i u hu
          obtain ⟨q, hq, rfl⟩ := List.mem_map.1 hx
          obtain ⟨r, hr, rfl⟩ := List.mem_map.1 hy
          obtain ⟨q1, q2, _⟩ := (im q).1 hq
          obtain ⟨r1, r2, _⟩ := (im r).1 hr
          have h1 := congrArg (fun p => img p i) e
          rw [q1.cimg hin, r1.cimg hin, q2 i (by omega), r2 i (by omega), (w.t1 i a t hin ht).2.2, (w.t1 i b u hin hu).2.2] at h1
          exact hne h1

theorem Ch.enum_length : ∀ (k i : Nat), (C.enum n k i).length = C.ord n k i
  | 0, _ => rfl
  | k + 1, i => by
    have ih := Ch.enum_length k (i + 1)
    have key : ∀ l : List Nat, (l.flatMap fun y => match C.T i y with
      | none => []
      | some t => (C.enum n k (i + 1)).map fun p => comp p t).length = (l.countP fun y => (C.T i y).isSome) * C.ord n k (i + 1) := by
      intro l
      induction l with
      | nil => simp
      | cons y l ihl =>
        rw [List.flatMap_cons, List.length_append, ihl, List.countP_cons]
        cases C.T i y with
        | none => simp
        | some t => simp [ih, Nat.add_mul, Nat.add_comm]
    simpa [Ch.enum, Ch.ord, Ch.cnt] using key (List.range n)

/-- The members of the group, each once. -/
theorem Ch.members (w : C.WF n) (hF : C.Full n 0) : ∃ L : List (List Int), L.Nodup ∧ L.length = C.ord n n 0 ∧ ∀ p, p ∈ L ↔ Gen n (C.S 0) p := by
  refine ⟨C.enum n n 0, Ch.enum_nodup w n 0 (by omega), Ch.enum_length n 0, fun p => ?_⟩
  rw [Ch.enum_mem w n 0 (by omega)]
  constructor
  · rintro ⟨h1, h2, h3⟩
    exact (Ch.has_iff w n 0 (by omega) hF p h1 h2).1 h3
  · intro h
    have hp := h.pm (w.gpm 0)
    have hf : fixB 0 p := fun j hj => by omega
    exact ⟨hp, hf, (Ch.has_iff w n 0 (by omega) hF p hp hf).2 h⟩

def fact : Nat → Nat
  | 0 => 1
  | k + 1 => (k + 1) * fact k

theorem Ch.cnt_le (w : C.WF n) {i : Nat} (hi : i < n) : C.cnt n i ≤ n - i := by
  have h1 : ∀ y, y < i → (C.T i y).isSome = false := by
    intro y hy
    cases ht : C.T i y with
    | none => rfl
    | some t =>
      obtain ⟨t1, t2, t3⟩ := w.t1 i y t hi ht
      have := t1.inj (i := i) (j := y) hi (by omega) (by rw [t3, t2 y hy])
      omega
  have h2 : (List.range n) = List.range i ++ (List.range (n - i)).map (i + ·) := by
    rw [← List.range_add]; congr 1; omega
  unfold Ch.cnt
  rw [h2, List.countP_append]
  have h3 : (List.range i).countP (fun y => (C.T i y).isSome) = 0 := by
    rw [List.countP_eq_zero]
    intro y hy
    simp [h1 y (by simpa using hy)]
  have h4 : ((List.range (n - i)).map (i + ·)).countP (fun y => (C.T i y).isSome) ≤ n - i := by
    have := List.countP_le_length (p := fun y => (C.T i y).isSome) (l := (List.range (n - i)).map (i + ·))
    simpa using this
  omega
theorem Ch.ord_le (w : C.WF n) : ∀ (k i : Nat), i + k = n → C.ord n k i ≤ fact k
  | 0, _, _ => Nat.le_refl _
  | k + 1, i, hi => by
    have h1 := Ch.cnt_le w (i := i) (by omega)
    have h2 := Ch.ord_le w k (i + 1) (by omega)
    rw [show n - i = k + 1 by omega] at h1
    exact Nat.mul_le_mul h1 h2
theorem fact_mono {k m : Nat} (h : k ≤ m) : fact k ≤ fact m := by
  induction m with
  | zero => rw [show k = 0 by omega]; exact Nat.le_refl _
  | succ m ih =>
    by_cases e : k = m + 1
    · rw [e]; exact Nat.le_refl _
    · have := ih (by omega)
      have h2 : fact m ≤ (m + 1) * fact m := by
        have := Nat.mul_le_mul_right (fact m) (show 1 ≤ m + 1 by omega)
        omega
      exact Nat.le_trans this h2
theorem fact_20 : fact 20 = 2432902008176640000 := by decide

end

/-- In a finite set that right multiplication leaves, inverses can be reached. -/
theorem Gen.inv_mem {n : Nat} {S L : List (List Int)} (hS : ∀ g ∈ S, Pm n g) (hL : ∀ p, p ∈ L ↔ Gen n S p) (hn : L.Nodup) {g : List Int} (hg : Gen n S g) : Gen n S (invp g) := by
  have gp := hg.pm hS
  have h1 : (L.map fun p => comp p g).Nodup := by
    rw [List.nodup_iff_pairwise_ne, List.pairwise_map]
    refine List.Pairwise.imp_of_mem (R := fun a b => a ≠ b) ?_ (List.nodup_iff_pairwise_ne.1 hn)
    intro a b ha hb hne e
    exact hne ((((hL a).1 ha).pm hS).right_inj (((hL b).1 hb).pm hS) gp e)
  have h2 : ∀ x ∈ (L.map fun p => comp p g), x ∈ L := by
    intro x hx
    obtain ⟨p, hp, rfl⟩ := List.mem_map.1 hx
    exact (hL _).2 (((hL p).1 hp).prod hS hg)
  have h3 : idn n ∈ (L.map fun p => comp p g) := by
    refine Classical.byContradiction fun hc => ?_
    have := Go.Plain.nodup_le L (idn n :: L.map fun p => comp p g) (List.nodup_cons.2 ⟨hc, h1⟩) (fun x hx => by
      simp only [List.mem_cons] at hx
      rcases hx with rfl | hx
      · exact (hL _).2 .one
      · exact h2 x hx)
    simp at this
    omega
  obtain ⟨p, hp, e⟩ := List.mem_map.1 h3
  have := ((hL p).1 hp)
  rwa [(this.pm hS).inv_of_comp gp e] at this
end Go.Pm
end
/- Extending a stabilizer chain: what the loops keep. -/
section
namespace Go.Pm
set_option linter.unusedVariables false

def rowsOf (n : Nat) : Nat → List (List Int)
  | 0 => [[]]
  | k + 1 => (List.range n).flatMap fun i : Nat => (rowsOf n k).map fun r => (i : Int) :: r
theorem rowsOf_mem (n : Nat) : ∀ (r : List Int), (∀ x, x ∈ r → ∃ i : Nat, i < n ∧ x = (i : Int)) → r ∈ rowsOf n r.length
  | [], _ => by simp [rowsOf]
  | x :: r, h => by
    obtain ⟨i, hi, rfl⟩ := h x (by simp)
    have := rowsOf_mem n r (fun y hy => h y (List.mem_cons_of_mem _ hy))
    simp only [List.length_cons, rowsOf, List.mem_flatMap, List.mem_range, List.mem_map]
    exact ⟨i, hi, r, this, rfl⟩
theorem nodup_of {α : Type} (L : List α) : ∃ M : List α, M.Nodup ∧ ∀ x, x ∈ M ↔ x ∈ L := by
  induction L with
  | nil => exact ⟨[], List.nodup_nil, fun x => Iff.rfl⟩
  | cons a L ih =>
    obtain ⟨M, h1, h2⟩ := ih
    by_cases h : a ∈ M
    · exact ⟨M, h1, fun x => by rw [h2, List.mem_cons]; constructor
                                · exact .inr
                                · rintro (rfl | hx)
                                  · exact (h2 _).1 h
                                  · exact hx⟩
    · exact ⟨a :: M, List.nodup_cons.2 ⟨h, h1⟩, fun x => by rw [List.mem_cons, List.mem_cons, h2]⟩
/-- In a finite group inverses are products. -/
theorem Gen.inv {n : Nat} {S : List (List Int)} (hS : ∀ g ∈ S, Pm n g) {g : List Int} (hg : Gen n S g) : Gen n S (invp g) := by
  obtain ⟨M, h1, h2⟩ := nodup_of (rowsOf n n)
  have dec : ∀ p, Decidable (Gen n S p) := fun p => Classical.propDecidable _
  refine Gen.inv_mem (L := M.filter fun p => @decide (Gen n S p) (dec p)) hS (fun p => ?_) (h1.filter _) hg
  rw [List.mem_filter, h2]
  constructor
  · rintro ⟨_, h⟩; exact @of_decide_eq_true _ (dec p) h
  · intro h
    refine ⟨?_, @decide_eq_true _ (dec p) h⟩
    have hp := h.pm hS
    have := rowsOf_mem n p (fun x hx => by
      obtain ⟨j, hj, rfl⟩ := List.mem_iff_getElem.1 hx
      have h3 := hp.2.1 j (by rw [← hp.1]; exact hj)
      rw [List.getD_eq_getElem?_getD, List.getElem?_eq_getElem hj] at h3
      simp only [Option.getD_some] at h3
      exact ⟨(p[j]).toNat, by omega, by omega⟩)
    rwa [hp.1] at this

/-- No generator lies in what those before it generate. -/
def Ind (n : Nat) (S : List (List Int)) : Prop := ∀ k, k < S.length → ¬ Gen n (S.take k) (S.getD k [])
theorem Ind.nil (n : Nat) : Ind n [] := fun k hk => by simp at hk
theorem Ind.snoc {n : Nat} {S : List (List Int)} {p : List Int} (h : Ind n S) (hp : ¬ Gen n S p) : Ind n (S ++ [p]) := fun k hk => by
  simp only [List.length_append, List.length_singleton] at hk
  by_cases e : k = S.length
  · subst e
    rw [List.take_left', List.getD_eq_getElem?_getD, List.getElem?_append_right (Nat.le_refl _)]
    · simpa using hp
    · rfl
  · have h1 := h k (by omega)
    rw [List.take_append_of_le_length (by omega), List.getD_eq_getElem?_getD, List.getElem?_append_left (by omega), ← List.getD_eq_getElem?_getD]
    exact h1
theorem rowsOf_length (n : Nat) : ∀ k, (rowsOf n k).length = n ^ k
  | 0 => rfl
  | k + 1 => by
    have ih := rowsOf_length n k
    have key : ∀ L : List Nat, (L.flatMap fun i : Nat => (rowsOf n k).map fun r => (i : Int) :: r).length = L.length * n ^ k := by
      intro L
      induction L with
      | nil => simp
      | cons a L h => rw [List.flatMap_cons, List.length_append, h, List.length_map, ih, List.length_cons, Nat.succ_mul]; omega
    rw [rowsOf, key, List.length_range, Nat.pow_succ, Nat.mul_comm]
theorem pm_rows {n : Nat} {p : List Int} (hp : Pm n p) : p ∈ rowsOf n n := by
  have := rowsOf_mem n p (fun x hx => by
    obtain ⟨j, hj, rfl⟩ := List.mem_iff_getElem.1 hx
    have h3 := hp.2.1 j (by rw [← hp.1]; exact hj)
    rw [List.getD_eq_getElem?_getD, List.getElem?_eq_getElem hj] at h3
    simp only [Option.getD_some] at h3
    exact ⟨(p[j]).toNat, by omega, by omega⟩)
  rwa [hp.1] at this
theorem Ind.many {n : Nat} {S : List (List Int)} (hS : ∀ g ∈ S, Pm n g) (h : Ind n S) : ∀ k, k ≤ S.length → ∃ L : List (List Int), L.Nodup ∧ 2 ^ k ≤ L.length ∧ ∀ x ∈ L, Gen n (S.take k) x
  | 0, _ => ⟨[idn n], by simp, by simp, fun x hx => by rw [List.mem_singleton] at hx; subst hx; exact .one⟩
  | k + 1, hk => by
    obtain ⟨L, h1, h2, h3⟩ := Ind.many hS h k (by omega)
    have e : S.take (k + 1) = S.take k ++ [S.getD k []] := by
      rw [List.take_succ_eq_append_getElem (by omega)]; simp [List.getD_eq_getElem?_getD, List.getElem?_eq_getElem (show k < S.length by omega)]
    have hg : S.getD k [] ∈ S := by
      rw [List.getD_eq_getElem?_getD, List.getElem?_eq_getElem (show k < S.length by omega)]; exact List.getElem_mem _
    have gp := hS _ hg
    have hSk : ∀ g ∈ S.take k, Pm n g := fun g hg => hS g (List.mem_of_mem_take hg)
    have hnot := h k (by omega)
    refine ⟨L ++ L.map fun x => comp x (S.getD k []), ?_, ?_, ?_⟩
    · refine List.nodup_append.2 ⟨h1, ?_, ?_⟩
      · rw [List.nodup_iff_pairwise_ne, List.pairwise_map]
        refine List.Pairwise.imp_of_mem (R := fun a b => a ≠ b) ?_ (List.nodup_iff_pairwise_ne.1 h1)
        intro a b ha hb hne e
        exact hne (((h3 a ha).pm hSk).right_inj ((h3 b hb).pm hSk) gp e)
      · intro x hx y hy exy
        obtain ⟨z, hz, rfl⟩ := List.mem_map.1 hy
        subst exy
        refine hnot ?_
        have zp := (h3 z hz).pm hSk
        have := Gen.prod hSk (Gen.inv hSk (h3 z hz)) (h3 _ hx)
        rwa [← zp.inv.assoc zp gp, zp.inv_comp, gp.idn_comp] at this
    · rw [List.length_append, List.length_map, Nat.pow_succ]; omega
    · intro x hx
      rw [e]
      rcases List.mem_append.1 hx with hx | hx
      · exact (h3 x hx).mono fun g hg => List.mem_append_left _ hg
      · obtain ⟨z, hz, rfl⟩ := List.mem_map.1 hx
        exact Gen.mul ((h3 z hz).mono fun g hg => List.mem_append_left _ hg) (by simp)
/-- A chain's rows of generators are short. -/
theorem Ind.short {n : Nat} {S : List (List Int)} (hn : n ≤ 20) (hS : ∀ g ∈ S, Pm n g) (h : Ind n S) : S.length ≤ 86 := by
  obtain ⟨L, h1, h2, h3⟩ := h.many hS S.length (Nat.le_refl _)
  have h4 := Go.Plain.nodup_le (rowsOf n n) L h1 (fun x hx => by
    have := (h3 x hx).pm (fun g hg => hS g (List.mem_of_mem_take hg))
    exact pm_rows this)
  rw [rowsOf_length] at h4
  have h5 : n ^ n ≤ 20 ^ 20 := Nat.le_trans (Nat.pow_le_pow_left hn n) (Nat.pow_le_pow_right (by decide) hn)
  refine Classical.byContradiction fun hc => ?_
  have h6 : 2 ^ 87 ≤ 2 ^ S.length := Nat.pow_le_pow_right (by decide) (by omega)
  have h7 : (20 : Nat) ^ 20 < 2 ^ 87 := by decide
  omega
def Ch.Ind (C : Ch) (n : Nat) : Prop := ∀ j, j < n → Go.Pm.Ind n (C.S j)

def Ch.addS (C : Ch) (i : Nat) (p : List Int) : Ch := ⟨fun j => if j = i then C.S i ++ [p] else C.S j, C.T⟩
def Ch.setT (C : Ch) (i k : Nat) (p : List Int) : Ch := ⟨C.S, fun j => if j = i then (fun y => if y = k then some p else C.T i y) else C.T j⟩
theorem Ch.addS_self (C : Ch) (i : Nat) (p : List Int) : (C.addS i p).S i = C.S i ++ [p] := by simp [Ch.addS]
theorem Ch.addS_ne (C : Ch) {i j : Nat} (p : List Int) (h : j ≠ i) : (C.addS i p).S j = C.S j := by simp [Ch.addS, h]
theorem Ch.setT_self (C : Ch) (i k : Nat) (p : List Int) (y : Nat) : (C.setT i k p).T i y = if y = k then some p else C.T i y := by simp [Ch.setT]
theorem Ch.setT_ne (C : Ch) {i j : Nat} (k : Nat) (p : List Int) (h : j ≠ i) : (C.setT i k p).T j = C.T j := by simp [Ch.setT, h]

/-- What adding p at the level l gives. -/
structure Ch.Add (n l : Nat) (C : Ch) (p : List Int) (C' : Ch) : Prop where
  eT : ∀ i, i < l → C'.T i = C.T i
  eS : ∀ i, i < l → C'.S i = C.S i
  wf : C'.WF n
  full : C'.Full n l
  mono : ∀ g, g ∈ C.S l → g ∈ C'.S l
  new : ∀ g, g ∈ C'.S l → g ∈ C.S l ∨ g = p
  has : C'.has (n - l) l p = true
  ind : C.Ind n → C'.Ind n

section
variable {C C0 C1 : Ch} {n l : Nat} {p : List Int} {q : List Int}

theorem Ch.WF.addS (w : C.WF n) (hp : Pm n p) (hf : fixB l p) : (C.addS l p).WF n :=
  ⟨w.t1, w.t0, fun i g hg => by
    by_cases h : i = l
    · subst h
      rw [Ch.addS_self] at hg
      rcases List.mem_append.1 hg with h | h
      · exact w.s1 _ _ h
      · rw [List.mem_singleton] at h; subst h; exact ⟨hp, hf⟩
    · rw [Ch.addS_ne _ _ h] at hg; exact w.s1 _ _ hg⟩
theorem Ch.WF.setT (w : C.WF n) {k : Nat} {t : List Int} (hk : k ≠ l) (ht : Pm n t) (hf : fixB l t) (he : img t l = k) : (C.setT l k t).WF n :=
  ⟨fun i y u hi hu => by
    by_cases h : i = l
    · subst h
      rw [Ch.setT_self] at hu
      split at hu
      · rename_i e; subst e; simp only [Option.some.injEq] at hu; subst hu; exact ⟨ht, hf, he⟩
      · exact w.t1 _ _ _ hi hu
    · rw [Ch.setT_ne _ _ _ h] at hu; exact w.t1 _ _ _ hi hu,
  fun i hi => by
    by_cases h : i = l
    · subst h; rw [Ch.setT_self, if_neg (fun e => hk e.symm)]; exact w.t0 _ hi
    · rw [Ch.setT_ne _ _ _ h]; exact w.t0 _ hi, w.s1⟩

/-- A new generator lies outside. -/
theorem Ch.Ind.addS (w : C.WF n) (hI : C.Ind n) (hF : C.Full n l) (hl : l < n) (hp : Pm n p) (hf : fixB l p) (hh : C.has (n - l) l p = false) : (C.addS l p).Ind n := fun j hj => by
  by_cases e : j = l
  · subst e
    rw [Ch.addS_self]
    refine (hI j hj).snoc fun hg => ?_
    rw [(Ch.has_iff w (n - j) j (by omega) hF p hp hf).2 hg] at hh
    simp at hh
  · rw [Ch.addS_ne _ _ e]; exact hI j hj
theorem Ch.Ind.short (w : C.WF n) (hI : C.Ind n) (hn : n ≤ 20) (hl : l < n) : (C.S l).length ≤ 86 := (hI l hl).short hn (w.gpm l)
theorem Ch.cnt_setT {k : Nat} {t : List Int} (hk : k < n) (h0 : C.T l k = none) : (C.setT l k t).cnt n l = C.cnt n l + 1 := by
  have key : ∀ m, (List.range m).countP (fun y => ((C.setT l k t).T l y).isSome) = (List.range m).countP (fun y => (C.T l y).isSome) + if k < m then 1 else 0 := by
    intro m
    induction m with
    | zero => simp
    | succ m ih =>
      rw [List.range_succ, List.countP_append, List.countP_append, ih]
      simp only [List.countP_cons, List.countP_nil, Ch.setT_self]
      by_cases h1 : m = k
      · subst h1; simp [h0]
      · simp only [if_neg h1]
        by_cases h2 : k < m
        · simp only [if_pos h2, if_pos (show k < m + 1 by omega)]; omega
        · simp only [if_neg h2, if_neg (show ¬ k < m + 1 by omega)]; omega
  unfold Ch.cnt
  rw [key, if_pos hk]
theorem Ch.cnt_le_n : C.cnt n l ≤ n := by
  unfold Ch.cnt
  exact Nat.le_trans List.countP_le_length (by simp)

/-- The orbit grows: q are the points that are still to be looked at. -/
structure Ph1 (n l : Nat) (C0 C : Ch) (q : List Int) : Prop where
  wf : C.WF n
  eT : ∀ i, i ≠ l → C.T i = C0.T i
  eS : C.S = C0.S
  tg : ∀ y t, C.T l y = some t → Gen n (C0.S l) t
  q1 : ∀ x, x ∈ q → ∃ y : Nat, y < n ∧ x = (y : Int) ∧ (C.T l y).isSome = true
  cl : ∀ y, (C.T l y).isSome = true → (y : Int) ∈ q ∨ ∀ g, g ∈ C0.S l → (C.T l (img g y)).isSome = true

theorem Ph1.lt (h : Ph1 n l C0 C q) (hl : l < n) {y : Nat} (hy : (C.T l y).isSome = true) : y < n := by
  cases e : C.T l y with
  | none => rw [e] at hy; simp at hy
  | some t => obtain ⟨h1, _, h3⟩ := h.wf.t1 l y t hl e; rw [← h3]; exact h1.img_lt hl
theorem Ph1.init (w : C.WF n) (hF : C.Full n l) (hl : l < n) (hp : Pm n p) (hf : fixB l p) (hq : ∀ x, x ∈ q ↔ ∃ y : Nat, y < n ∧ x = (y : Int) ∧ (C.T l y).isSome = true) : Ph1 n l (C.addS l p) (C.addS l p) q :=
  ⟨w.addS hp hf, fun _ _ => rfl, rfl, fun y t ht => ((hF l (Nat.le_refl _) hl).tg y t ht).mono (fun g hg => by rw [Ch.addS_self]; exact List.mem_append_left _ hg),
    fun x hx => (hq x).1 hx, fun y hy => .inl ((hq y).2 ⟨y, by
      cases e : C.T l y with
      | none => have : (C.T l y).isSome = true := hy; rw [e] at this; simp at this
      | some t => obtain ⟨h1, _, h3⟩ := w.t1 l y t hl e; rw [← h3]; exact h1.img_lt hl, rfl, hy⟩)⟩
theorem Ph1.push (h : Ph1 n l C0 C q) (hl : l < n) {y : Nat} {t g : List Int} (ht : C.T l y = some t) (hg : g ∈ C0.S l) (hn : C.T l (img g y) = none) : Ph1 n l C0 (C.setT l (img g y) (comp t g)) (q ++ [((img g y : Nat) : Int)]) := by
  obtain ⟨t1, t2, t3⟩ := h.wf.t1 l y t hl ht
  obtain ⟨g1, g2⟩ := h.wf.s1 l g (by rw [h.eS]; exact hg)
  have hyn : y < n := h.lt hl (by rw [ht]; rfl)
  have hSp : ∀ x, x ∈ C0.S l → Pm n x := fun x hx => (h.wf.s1 l x (by rw [h.eS]; exact hx)).1
  have hne : img g y ≠ l := fun e => by rw [e, h.wf.t0 l hl] at hn; simp at hn
  refine ⟨h.wf.setT hne (t1.comp g1) (fixB.comp t1 (by omega) t2 g2) (by rw [t1.cimg hl, t3]), fun i hi => by rw [Ch.setT_ne _ _ _ hi]; exact h.eT i hi, h.eS, ?_, ?_, ?_⟩
  · intro z u hu
    rw [Ch.setT_self] at hu
    split at hu
    · simp only [Option.some.injEq] at hu; subst hu
      exact Gen.prod hSp (h.tg y t ht) (Gen.of hSp hg)
    · exact h.tg z u hu
  · intro x hx
    rcases List.mem_append.1 hx with hx | hx
    · obtain ⟨z, h1, h2, h3⟩ := h.q1 x hx
      refine ⟨z, h1, h2, ?_⟩
      rw [Ch.setT_self]; split
      · rfl
      · exact h3
    · rw [List.mem_singleton] at hx
      exact ⟨_, g1.img_lt hyn, hx, by rw [Ch.setT_self, if_pos rfl]; rfl⟩
  · intro z hz
    rw [Ch.setT_self] at hz
    split at hz
    · rename_i e; subst e; exact .inl (List.mem_append_right _ (by simp))
    · rcases h.cl z hz with h1 | h1
      · exact .inl (List.mem_append_left _ h1)
      · refine .inr fun x hx => ?_
        rw [Ch.setT_self]; split
        · rfl
        · exact h1 x hx
theorem Ph1.pop {y : Nat} (h : Ph1 n l C0 C ((y : Int) :: q)) (hd : ∀ g, g ∈ C0.S l → (C.T l (img g y)).isSome = true) : Ph1 n l C0 C q :=
  ⟨h.wf, h.eT, h.eS, h.tg, fun x hx => h.q1 x (List.mem_cons_of_mem _ hx), fun z hz => by
    rcases h.cl z hz with h1 | h1
    · rcases List.mem_cons.1 h1 with h2 | h2
      · have e : z = y := by omega
        subst e; exact .inr hd
      · exact .inl h2
    · exact .inr h1⟩

/-- The quotient that a point and a generator give. -/
def Ch.quo (C : Ch) (l y : Nat) (g : List Int) : List Int := comp (comp ((C.T l y).getD []) g) (invp ((C.T l (img g y)).getD []))

/-- The orbit stands; the quotients are added one by one. -/
structure Ph2 (n l : Nat) (C0 C : Ch) : Prop where
  wf : C.WF n
  eT : ∀ i, i ≤ l → C.T i = C0.T i
  eS : ∀ i, i ≤ l → C.S i = C0.S i
  full : C.Full n (l + 1)
  tg : ∀ y t, C0.T l y = some t → Gen n (C0.S l) t
  cl : ∀ y g, (C0.T l y).isSome = true → g ∈ C0.S l → (C0.T l (img g y)).isSome = true
  sg : ∀ g, g ∈ C.S (l + 1) → Gen n (C0.S l) g
  ind : C.Ind n

theorem Ch.Full.of_eq (h : C0.Full n l) (eT : ∀ i, l ≤ i → C.T i = C0.T i) (eS : ∀ i, l ≤ i → C.S i = C0.S i) : C.Full n l := fun j hj hjn => by
  have o := h j hj hjn
  refine ⟨?_, ?_, ?_⟩
  · intro y t g ht hg
    rw [eT j hj] at ht ⊢
    rw [eS j hj] at hg
    obtain ⟨u, h1, h2⟩ := o.cl y t g ht hg
    exact ⟨u, h1, by rw [Ch.has_congr _ _ _ (fun i hi => eT i (by omega))]; exact h2⟩
  · intro y t ht
    rw [eT j hj] at ht
    rw [eS j hj]
    exact o.tg y t ht
  · intro g hg
    rw [eS (j + 1) (by omega)] at hg
    rw [eS j hj]
    exact o.sg g hg

/-- The start: C1 is the chain with the generator, C the one whose orbit is closed. -/
theorem Ph2.init (w0 : C1.WF n) (hF : C1.Full n l) (hl : l < n) (hp : Pm n p) (hf : fixB l p) (hI : (C1.addS l p).Ind n) (h : Ph1 n l (C1.addS l p) C []) : Ph2 n l C C := by
  have e1 : ∀ i, l + 1 ≤ i → C.T i = C1.T i := fun i hi => h.eT i (by omega)
  have e2 : ∀ i, l + 1 ≤ i → C.S i = C1.S i := fun i hi => by rw [h.eS, Ch.addS_ne _ _ (by omega)]
  have hS : C.S l = C1.S l ++ [p] := by rw [h.eS, Ch.addS_self]
  have hF1 : C1.Full n (l + 1) := fun j hj hjn => hF j (by omega) hjn
  refine ⟨h.wf, fun _ _ => rfl, fun _ _ => rfl, hF1.of_eq e1 e2, ?_, ?_, ?_, ?_⟩
  · intro y t ht; rw [h.eS]; exact h.tg y t ht
  · intro y g hy hg
    rcases h.cl y hy with h1 | h1
    · simp at h1
    · exact h1 g (by rw [← h.eS]; exact hg)
  · intro g hg
    rw [e2 (l + 1) (by omega)] at hg
    rw [hS]
    exact ((hF l (Nat.le_refl _) hl).sg g hg).mono fun x hx => List.mem_append_left _ hx
  · intro j hj; rw [h.eS]; exact hI j hj

theorem Ph2.quo_fix (h : Ph2 n l C0 C) (hl : l < n) {y : Nat} {g : List Int} (hy : (C0.T l y).isSome = true) (hg : g ∈ C0.S l) : Pm n (C0.quo l y g) ∧ fixB (l + 1) (C0.quo l y g) ∧ Gen n (C0.S l) (C0.quo l y g) := by
  have hu := h.cl y g hy hg
  have hpmS : ∀ x, x ∈ C0.S l → Pm n x := fun x hx => (h.wf.s1 l x (by rw [h.eS l (Nat.le_refl _)]; exact hx)).1
  cases e : C0.T l y with
  | none => rw [e] at hy; simp at hy
  | some t =>
    cases e2 : C0.T l (img g y) with
    | none => rw [e2] at hu; simp at hu
    | some u =>
      have w1 := h.wf.t1 l y t hl (by rw [h.eT l (Nat.le_refl _)]; exact e)
      have w2 := h.wf.t1 l _ u hl (by rw [h.eT l (Nat.le_refl _)]; exact e2)
      have wg := h.wf.s1 l g (by rw [h.eS l (Nat.le_refl _)]; exact hg)
      unfold Ch.quo
      rw [e, e2]
      simp only [Option.getD_some]
      refine ⟨(w1.1.comp wg.1).comp w2.1.inv, fixB.quot (w1.1.comp wg.1) w2.1 hl (fixB.comp w1.1 (by omega) w1.2.1 wg.2) w2.2.1 (by rw [w2.2.2, w1.1.cimg hl, w1.2.2]), ?_⟩
      exact Gen.prod hpmS (Gen.prod hpmS (h.tg y t e) (Gen.of hpmS hg)) (Gen.inv hpmS (h.tg _ u e2))
/-- One quotient more. -/
theorem Ph2.step (h : Ph2 n l C0 C) {x : List Int} (hx : Gen n (C0.S l) x) (a : Ch.Add n (l + 1) C x C1) : Ph2 n l C0 C1 :=
  ⟨a.wf, fun i hi => by rw [a.eT i (by omega)]; exact h.eT i hi, fun i hi => by rw [a.eS i (by omega)]; exact h.eS i hi, a.full, h.tg, h.cl, fun g hg => by
    rcases a.new g hg with h1 | rfl
    · exact h.sg g h1
    · exact hx, a.ind h.ind⟩
theorem Ph2.keep (h : Ph2 n l C0 C) (hl : l < n) {x : List Int} (a : Ch.Add n (l + 1) C x C1) {z : List Int} (hz : Pm n z) (hf : fixB (l + 1) z) (hh : C.has (n - (l + 1)) (l + 1) z = true) : C1.has (n - (l + 1)) (l + 1) z = true :=
  Ch.has_mono h.wf a.wf (by omega) h.full a.full a.mono hz hf hh
/-- The end: all quotients are there. -/
theorem Ph2.fin (h : Ph2 n l C0 C) (hl : l < n) (hd : ∀ y g, (C0.T l y).isSome = true → g ∈ C0.S l → C.has (n - (l + 1)) (l + 1) (C0.quo l y g) = true) : C.Full n l := fun j hj hjn => by
  by_cases e : j = l
  · subst e
    refine ⟨?_, ?_, ?_⟩
    · intro y t g ht hg
      rw [h.eT j (Nat.le_refl _)] at ht
      rw [h.eS j (Nat.le_refl _)] at hg
      have h1 := h.cl y g (by rw [ht]; rfl) hg
      have h2 := hd y g (by rw [ht]; rfl) hg
      cases e2 : C0.T j (img g y) with
      | none => rw [e2] at h1; simp at h1
      | some u =>
        unfold Ch.quo at h2
        rw [ht, e2] at h2
        exact ⟨u, by rw [h.eT j (Nat.le_refl _)]; exact e2, h2⟩
    · intro y t ht
      rw [h.eT j (Nat.le_refl _)] at ht
      rw [h.eS j (Nat.le_refl _)]
      exact h.tg y t ht
    · intro g hg
      rw [h.eS j (Nat.le_refl _)]
      exact h.sg g hg
  · exact h.full j (by omega) hjn
/-- What was asked for. -/
theorem Ph2.add {C2 : Ch} (w0 : C1.WF n) (hl : l < n) (hp : Pm n p) (hf : fixB l p) (h1 : Ph1 n l (C1.addS l p) C0 []) (h : Ph2 n l C0 C2) (hF : C2.Full n l) : Ch.Add n l C1 p C2 := by
  have hS : C2.S l = C1.S l ++ [p] := by rw [h.eS l (Nat.le_refl _), h1.eS, Ch.addS_self]
  refine ⟨fun i hi => by rw [h.eT i (by omega), h1.eT i (by omega)]; rfl, fun i hi => by rw [h.eS i (by omega), h1.eS, Ch.addS_ne _ _ (by omega)], h.wf, hF, fun g hg => by rw [hS]; exact List.mem_append_left _ hg, fun g hg => by rw [hS] at hg; simpa using hg, ?_, fun _ => h.ind⟩
  refine (Ch.has_iff h.wf (n - l) l (by omega) hF p hp hf).2 (Gen.of (h.wf.gpm l) (by rw [hS]; simp))
theorem Ch.Add.none (w : C.WF n) (hF : C.Full n l) (h : C.has (n - l) l p = true) : Ch.Add n l C p C :=
  ⟨fun _ _ => rfl, fun _ _ => rfl, w, hF, fun _ h => h, fun _ h => .inl h, h, id⟩
theorem Ch.Add.gen {S : List (List Int)} (a : Ch.Add n 0 C p C1) (hp : Pm n p) (hS : ∀ g ∈ S, Pm n g) (h : ∀ g, Gen n S g ↔ Gen n (C.S 0) g) : ∀ g, Gen n (S ++ [p]) g ↔ Gen n (C1.S 0) g := by
  have hS1 : ∀ g ∈ S ++ [p], Pm n g := fun g hg => by
    rcases List.mem_append.1 hg with hg | hg
    · exact hS g hg
    · rw [List.mem_singleton] at hg; subst hg; exact hp
  intro g
  constructor
  · intro hg
    refine hg.sub (a.wf.gpm 0) fun x hx => ?_
    rcases List.mem_append.1 hx with hx | hx
    · exact ((h x).1 (Gen.of hS hx)).mono a.mono
    · rw [List.mem_singleton] at hx; subst hx
      exact (Ch.has_iff a.wf n 0 (by omega) a.full _ hp (fun j hj => by omega)).1 a.has
  · intro hg
    refine hg.sub hS1 fun x hx => ?_
    rcases a.new x hx with hx | rfl
    · refine ((h x).2 ?_).mono fun y hy => List.mem_append_left _ hy
      refine Gen.of (fun y hy => ?_) hx
      exact a.wf.gpm 0 y (a.mono y hy)
    · exact Gen.of hS1 (by simp)
end
end Go.Pm
end
/- Extending a stabilizer chain product by product. -/
section
namespace Go.Pm
set_option linter.unusedVariables false

/-- The chain is sound from level l on, and full below it. -/
structure Spc (n l : Nat) (C : Ch) : Prop where
  wf : C.WF n
  full : C.Full n (l + 1)
  ind : C.Ind n
  tg : ∀ y t, C.T l y = some t → Gen n (C.S l) t
  sg : ∀ g, g ∈ C.S (l + 1) → Gen n (C.S l) g

/-- C' comes of C by products at level l. -/
structure Run (n l : Nat) (C C' : Ch) : Prop where
  eT : ∀ i, i < l → C'.T i = C.T i
  eS : ∀ i, i ≤ l → C'.S i = C.S i
  ok : Spc n l C'
  ext : ∀ y t, C.T l y = some t → C'.T l y = some t
  mono : ∀ g, g ∈ C.S (l + 1) → g ∈ C'.S (l + 1)
  newd : ∀ y t g, C'.T l y = some t → C.T l y = none → g ∈ C.S l → C'.has (n - l) l (comp t g) = true

section
variable {n l : Nat} {C C' C'' : Ch} {x z : List Int}

theorem Ch.has_step (C : Ch) (hl : l < n) (z : List Int) : C.has (n - l) l z = match C.T l (img z l) with | none => false | some t => C.has (n - (l + 1)) (l + 1) (comp z (invp t)) := by
  rw [show n - l = (n - (l + 1)) + 1 by omega]; rfl
theorem Run.refl (h : Spc n l C) : Run n l C C := ⟨fun _ _ => rfl, fun _ _ => rfl, h, fun _ _ h => h, fun _ h => h, fun y t g h1 h2 => by rw [h1] at h2; simp at h2⟩
theorem Run.keep (r : Run n l C C') (h : Spc n l C) (hl : l < n) (hz : Pm n z) (hf : fixB l z) (hh : C.has (n - l) l z = true) : C'.has (n - l) l z = true := by
  rw [Ch.has_step C hl] at hh
  rw [Ch.has_step C' hl]
  cases e : C.T l (img z l) with
  | none => rw [e] at hh; simp at hh
  | some t =>
    rw [e] at hh
    rw [r.ext _ _ e]
    obtain ⟨t1, t2, t3⟩ := h.wf.t1 l _ t hl e
    exact Ch.has_mono h.wf r.ok.wf (by omega) h.full r.ok.full r.mono (hz.comp t1.inv) (fixB.quot hz t1 hl hf t2 t3) hh
theorem Run.trans (r : Run n l C C') (q : Run n l C' C'') (hl : l < n) : Run n l C C'' := by
  refine ⟨fun i hi => by rw [q.eT i hi, r.eT i hi], fun i hi => by rw [q.eS i hi, r.eS i hi], q.ok, fun y t h => q.ext y t (r.ext y t h), fun g hg => q.mono g (r.mono g hg), ?_⟩
  intro y t g h1 h2 hg
  have hg' : g ∈ C'.S l := by rw [r.eS l (Nat.le_refl _)]; exact hg
  cases e : C'.T l y with
  | none => exact q.newd y t g h1 e hg'
  | some t' =>
    have e2 := q.ext y t' e
    rw [h1] at e2
    simp only [Option.some.injEq] at e2
    subst e2
    obtain ⟨t1, t2, _⟩ := r.ok.wf.t1 l y t hl e
    obtain ⟨g1, g2⟩ := r.ok.wf.s1 l g hg'
    exact q.keep r.ok hl (t1.comp g1) (fixB.comp t1 (by omega) t2 g2) (r.newd y t g e h2 hg)
theorem Spc.gpm (h : Spc n l C) : ∀ g ∈ C.S l, Pm n g := h.wf.gpm l
/-- The quotient by a representative that is there. -/
theorem Spc.quo (h : Spc n l C) (hl : l < n) (hx : Pm n x) (hf : fixB l x) (hg : Gen n (C.S l) x) {t : List Int} (ht : C.T l (img x l) = some t) : Pm n (comp x (invp t)) ∧ fixB (l + 1) (comp x (invp t)) ∧ Gen n (C.S l) (comp x (invp t)) := by
  obtain ⟨t1, t2, t3⟩ := h.wf.t1 l _ t hl ht
  exact ⟨hx.comp t1.inv, fixB.quot hx t1 hl hf t2 t3, Gen.prod h.gpm hg (Gen.inv h.gpm (h.tg _ _ ht))⟩
/-- .. given to the level above. -/
theorem Run.up (h : Spc n l C) (hl : l < n) {t : List Int} (ht : C.T l (img x l) = some t) (hg : Gen n (C.S l) (comp x (invp t))) (a : Ch.Add n (l + 1) C (comp x (invp t)) C') : Run n l C C' ∧ C'.has (n - l) l x = true := by
  have eT : C'.T l = C.T l := a.eT l (by omega)
  have eS : C'.S l = C.S l := a.eS l (by omega)
  refine ⟨⟨fun i hi => a.eT i (by omega), fun i hi => a.eS i (by omega), ⟨a.wf, a.full, a.ind h.ind, fun y u hu => ?_, fun g hg' => ?_⟩, fun y u hu => by rw [eT]; exact hu, a.mono, fun y u g h1 h2 => by rw [eT, h2] at h1; simp at h1⟩, ?_⟩
  · rw [eT] at hu; rw [eS]; exact h.tg y u hu
  · rw [eS]
    rcases a.new g hg' with h1 | rfl
    · exact h.sg g h1
    · exact hg
  · rw [Ch.has_step C' hl, eT, ht]; exact a.has
/-- A new representative. -/
theorem Spc.set (h : Spc n l C) (hl : l < n) (hx : Pm n x) (hf : fixB l x) (hg : Gen n (C.S l) x) (hn : C.T l (img x l) = none) : Spc n l (C.setT l (img x l) x) := by
  have hne : img x l ≠ l := fun e => by rw [e, h.wf.t0 l hl] at hn; simp at hn
  refine ⟨h.wf.setT hne hx hf rfl, h.full.of_eq (fun i hi => Ch.setT_ne _ _ _ (by omega)) (fun _ _ => rfl), h.ind, fun y t ht => ?_, h.sg⟩
  rw [Ch.setT_self] at ht
  split at ht
  · simp only [Option.some.injEq] at ht; subst ht; exact hg
  · exact h.tg y t ht
theorem Ch.has_idn (w : C.WF n) (hF : C.Full n (l + 1)) (hl : l < n) : C.has (n - (l + 1)) (l + 1) (idn n) = true :=
  (Ch.has_iff w (n - (l + 1)) (l + 1) (by omega) hF _ (.idn n) (fixB.idn n _ (by omega))).2 .one
/-- .. and all its products. -/
theorem Run.set (h : Spc n l C) (hl : l < n) (hx : Pm n x) (hf : fixB l x) (hn : C.T l (img x l) = none) (r : Run n l (C.setT l (img x l) x) C') (hd : ∀ g, g ∈ C.S l → C'.has (n - l) l (comp x g) = true) : Run n l C C' ∧ C'.has (n - l) l x = true := by
  have hx' : C'.T l (img x l) = some x := r.ext _ _ (by rw [Ch.setT_self, if_pos rfl])
  refine ⟨⟨fun i hi => by rw [r.eT i hi, Ch.setT_ne _ _ _ (by omega)], r.eS, r.ok, fun y t ht => r.ext y t ?_, r.mono, ?_⟩, ?_⟩
  · rw [Ch.setT_self, if_neg (fun e => by rw [e, hn] at ht; simp at ht)]; exact ht
  · intro y t g h1 h2 hg
    by_cases e : y = img x l
    · subst e
      rw [hx'] at h1
      simp only [Option.some.injEq] at h1
      subst h1
      exact hd g hg
    · exact r.newd y t g h1 (by rw [Ch.setT_self, if_neg e]; exact h2) hg
  · rw [Ch.has_step C' hl, hx']
    dsimp only
    rw [hx.comp_inv]
    exact Ch.has_idn r.ok.wf r.ok.full hl
theorem Run.cnt (r : Run n l C C') : C.cnt n l ≤ C'.cnt n l := by
  unfold Ch.cnt
  refine List.countP_mono_left fun y _ hy => ?_
  obtain ⟨t, ht⟩ := Option.isSome_iff_exists.1 hy
  rw [r.ext y t ht]; rfl

/-- The chain with one generator more, before the products. -/
theorem Spc.start {p : List Int} (w : C.WF n) (hF : C.Full n l) (hI : C.Ind n) (hl : l < n) (hp : Pm n p) (hf : fixB l p) (hh : C.has (n - l) l p = false) : Spc n l (C.addS l p) := by
  have e2 : ∀ i, l + 1 ≤ i → (C.addS l p).S i = C.S i := fun i hi => Ch.addS_ne _ _ (by omega)
  refine ⟨w.addS hp hf, Ch.Full.of_eq (fun j hj hjn => hF j (by omega) hjn) (fun _ _ => rfl) e2, hI.addS w hF hl hp hf hh, fun y t ht => ?_, fun g hg => ?_⟩
  · exact ((hF l (Nat.le_refl _) hl).tg y t ht).mono fun g hg => by rw [Ch.addS_self]; exact List.mem_append_left _ hg
  · rw [e2 (l + 1) (by omega)] at hg
    exact ((hF l (Nat.le_refl _) hl).sg g hg).mono fun g hg => by rw [Ch.addS_self]; exact List.mem_append_left _ hg
/-- The products of all old representatives with the new generator are there: the generator is in. -/
theorem Run.fin {p : List Int} (w : C.WF n) (hF : C.Full n l) (hl : l < n) (hp : Pm n p) (hf : fixB l p) (s : Spc n l (C.addS l p)) (r : Run n l (C.addS l p) C') (hd : ∀ y t, C.T l y = some t → C'.has (n - l) l (comp t p) = true) : Ch.Add n l C p C' := by
  have hS : C'.S l = C.S l ++ [p] := by rw [r.eS l (Nat.le_refl _), Ch.addS_self]
  have hFull : C'.Full n l := fun j hj hjn => by
    by_cases e : j = l
    · subst e
      have key : ∀ y t g, C'.T j y = some t → g ∈ C'.S j → C'.has (n - j) j (comp t g) = true := by
        intro y t g ht hg
        cases e1 : C.T j y with
        | none => exact r.newd y t g ht e1 (by rw [Ch.addS_self, ← hS]; exact hg)
        | some t0 =>
          have e2 := r.ext y t0 e1
          rw [ht] at e2
          simp only [Option.some.injEq] at e2
          subst e2
          rw [hS] at hg
          rcases List.mem_append.1 hg with hg | hg
          · obtain ⟨u, h1, h2⟩ := (hF j (Nat.le_refl _) hjn).cl y t g e1 hg
            obtain ⟨t1, t2, t3⟩ := w.t1 j y t hjn e1
            obtain ⟨g1, g2⟩ := w.s1 j g hg
            have h3 : (C.addS j p).has (n - j) j (comp t g) = true := by
              rw [Ch.has_step _ hjn, t1.cimg hjn, t3]
              show (match C.T j (img g y) with | none => false | some t' => _) = true
              rw [h1]
              dsimp only
              refine Ch.has_mono w s.wf (by omega) (fun i hi hin => hF i (by omega) hin) s.full (fun g hg => by rw [Ch.addS_ne _ _ (by omega)]; exact hg) ?_ ?_ h2
              · exact (t1.comp g1).comp (w.t1 j _ u hjn h1).1.inv
              · exact fixB.quot (t1.comp g1) (w.t1 j _ u hjn h1).1 hjn (fixB.comp t1 (by omega) t2 g2) (w.t1 j _ u hjn h1).2.1 (by rw [(w.t1 j _ u hjn h1).2.2, t1.cimg hjn, t3])
            exact r.keep s hjn (t1.comp g1) (fixB.comp t1 (by omega) t2 g2) h3
          · rw [List.mem_singleton] at hg; subst hg
            exact hd y t e1
      refine ⟨fun y t g ht hg => ?_, r.ok.tg, r.ok.sg⟩
      have h1 := key y t g ht hg
      obtain ⟨t1, t2, t3⟩ := r.ok.wf.t1 j y t hjn ht
      rw [Ch.has_step _ hjn, t1.cimg hjn, t3] at h1
      cases e3 : C'.T j (img g y) with
      | none => rw [e3] at h1; simp at h1
      | some u => rw [e3] at h1; exact ⟨u, rfl, h1⟩
    · exact r.ok.full j (by omega) hjn
  refine ⟨r.eT, fun i hi => by rw [r.eS i (by omega), Ch.addS_ne _ _ (by omega)], r.ok.wf, hFull, fun g hg => by rw [hS]; exact List.mem_append_left _ hg, fun g hg => by rw [hS] at hg; simpa using hg, ?_, fun _ => r.ok.ind⟩
  exact (Ch.has_iff r.ok.wf (n - l) l (by omega) hFull p hp hf).2 (Gen.of (r.ok.wf.gpm l) (by rw [hS]; simp))
end
end Go.Pm
end
/- Breadth-first search over rows of positions: what both texts compute. -/
section
namespace Go.Pm
set_option linter.unusedVariables false

structure Bf where
  st : List (List Int)
  dp : List Int
  pa : List Int
  bl : List Int
  nx : List (List Int)

/-- One letter at the state number k. -/
def Bf.meet (k : Nat) (x : Bf × List Int) (l : Int × List Int) : Bf × List Int :=
  if comp (x.1.st.getD k []) l.2 ∈ x.1.st then (x.1, x.2 ++ [((x.1.st.idxOf (comp (x.1.st.getD k []) l.2) : Nat) : Int)])
  else ({ x.1 with st := x.1.st ++ [comp (x.1.st.getD k []) l.2], dp := x.1.dp ++ [x.1.dp.getD k 0 + 1], pa := x.1.pa ++ [(k : Int)], bl := x.1.bl ++ [l.1] }, x.2 ++ [(x.1.st.length : Int)])
def Bf.rows (Ls : List (Int × List Int)) (k : Nat) (B : Bf) (j : Nat) : Bf × List Int := (Ls.take j).foldl (Bf.meet k) (B, [])
def Bf.step (Ls : List (Int × List Int)) (k : Nat) (B : Bf) : Bf := { (B.rows Ls k Ls.length).1 with nx := B.nx ++ [(B.rows Ls k Ls.length).2] }
def Bf.run (Ls : List (Int × List Int)) (s0 : List Int) : Nat → Bf
  | 0 => ⟨[s0], [0], [0], [0], []⟩
  | k + 1 => (Bf.run Ls s0 k).step Ls k

section
variable {Ls : List (Int × List Int)} {s0 : List Int} {n : Nat}

theorem Bf.rows_succ (k : Nat) (B : Bf) {j : Nat} (h : j < Ls.length) : B.rows Ls k (j + 1) = Bf.meet k (B.rows Ls k j) (Ls.getD j (0, [])) := by
  unfold Bf.rows
  rw [List.take_succ_eq_append_getElem h, List.foldl_append]
  simp [List.getD_eq_getElem?_getD, h]

/-- y comes of x by more states. -/
structure Bf.More (x y : Bf) : Prop where
  st : x.st <+: y.st
  dp : x.dp <+: y.dp
  pa : x.pa <+: y.pa
  bl : x.bl <+: y.bl
  nx : x.nx <+: y.nx
theorem Bf.More.refl (x : Bf) : Bf.More x x := ⟨List.prefix_refl _, List.prefix_refl _, List.prefix_refl _, List.prefix_refl _, List.prefix_refl _⟩
theorem Bf.More.trans {x y z : Bf} (h : Bf.More x y) (k : Bf.More y z) : Bf.More x z := ⟨h.st.trans k.st, h.dp.trans k.dp, h.pa.trans k.pa, h.bl.trans k.bl, h.nx.trans k.nx⟩
theorem Bf.meet_more (k : Nat) (x : Bf × List Int) (l : Int × List Int) : Bf.More x.1 (Bf.meet k x l).1 := by
  unfold Bf.meet
  split
  · exact .refl _
  · exact ⟨List.prefix_append _ _, List.prefix_append _ _, List.prefix_append _ _, List.prefix_append _ _, List.prefix_refl _⟩
theorem Bf.rows_more (k : Nat) (B : Bf) : ∀ j, j ≤ Ls.length → Bf.More B (B.rows Ls k j).1
  | 0, _ => .refl _
  | j + 1, h => by
    rw [Bf.rows_succ k B (by omega)]
    exact (Bf.rows_more k B j (by omega)).trans (Bf.meet_more _ _ _)
theorem Bf.rows_len (k : Nat) (B : Bf) : ∀ j, j ≤ Ls.length → (B.rows Ls k j).2.length = j
  | 0, _ => rfl
  | j + 1, h => by
    rw [Bf.rows_succ k B (by omega)]
    have := Bf.rows_len k B j (by omega)
    unfold Bf.meet
    split <;> simp [this]
theorem Bf.step_more (k : Nat) (B : Bf) : Bf.More B (B.step Ls k) := by
  have := Bf.rows_more (Ls := Ls) k B Ls.length (Nat.le_refl _)
  exact ⟨this.st, this.dp, this.pa, this.bl, List.prefix_append _ _⟩
theorem Bf.run_more {j k : Nat} (h : j ≤ k) : Bf.More (Bf.run Ls s0 j) (Bf.run Ls s0 k) := by
  induction k with
  | zero => rw [show j = 0 by omega]; exact .refl _
  | succ k ih =>
    by_cases e : j = k + 1
    · rw [e]; exact .refl _
    · exact (ih (by omega)).trans (Bf.step_more _ _)
theorem pre_getD {α : Type} {l m : List α} (h : l <+: m) {i : Nat} (hi : i < l.length) (d : α) : m.getD i d = l.getD i d := by
  obtain ⟨r, rfl⟩ := h
  simp [List.getD_eq_getElem?_getD, List.getElem?_append_left hi]

/-- What holds of every state of the search. -/
structure Bf.J (n : Nat) (Ls : List (Int × List Int)) (s0 : List Int) (B : Bf) : Prop where
  nd : B.st.Nodup
  ne : B.st.getD 0 [] = s0 ∧ 0 < B.st.length
  gen : ∀ s ∈ B.st, ∃ g, Gen n (Ls.map (·.2)) g ∧ s = comp s0 g
  ld : B.dp.length = B.st.length
  lp : B.pa.length = B.st.length
  lb : B.bl.length = B.st.length

theorem comp_assoc {p q r : List Int} {n : Nat} (hp : ∀ j, j < p.length → img p j < n) (hq : Pm n q) : comp (comp p q) r = comp p (comp q r) := by
  refine ext (by simp [comp]) fun j hj => ?_
  rw [comp_length, comp_length] at hj
  rw [comp_get _ _ (by rw [comp_length]; exact hj), comp_get _ _ hj, img_comp _ _ hj, comp_get _ _ (by rw [hq.1]; exact hp j hj)]

theorem mem_getD_of_lt {α : Type} {l : List α} {i : Nat} (d : α) (h : i < l.length) : l.getD i d ∈ l := by
  rw [List.getD_eq_getElem?_getD, List.getElem?_eq_getElem h]
  exact List.getElem_mem h

theorem Bf.J.meet (h0 : ∀ j, j < s0.length → img s0 j < n) (hG : ∀ g ∈ Ls.map (·.2), Pm n g) {k : Nat} {x : Bf × List Int} {l : Int × List Int} (hl : l ∈ Ls) (hk : k < x.1.st.length) (h : Bf.J n Ls s0 x.1) : Bf.J n Ls s0 (Bf.meet k x l).1 := by
  unfold Bf.meet
  split
  · exact h
  · rename_i hn
    have hm : x.1.st.getD k [] ∈ x.1.st := mem_getD_of_lt _ hk
    refine ⟨?_, ⟨?_, by simp⟩, ?_, by simp [h.ld], by simp [h.lp], by simp [h.lb]⟩
    · refine List.nodup_append.2 ⟨h.nd, by simp, ?_⟩
      intro a ha b hb
      simp only [List.mem_singleton] at hb
      subst hb
      intro e; exact hn (e ▸ ha)
    · have := h.ne
      rw [pre_getD (List.prefix_append _ _) this.2]; exact this.1
    · intro s hs
      simp only [List.mem_append, List.mem_singleton] at hs
      rcases hs with hs | rfl
      · exact h.gen s hs
      · obtain ⟨g, hg, e⟩ := h.gen _ hm
        refine ⟨comp g l.2, hg.mul (List.mem_map.2 ⟨l, hl, rfl⟩), ?_⟩
        rw [e, comp_assoc h0 (hg.pm hG)]
theorem Bf.J.rows (h0 : ∀ j, j < s0.length → img s0 j < n) (hG : ∀ g ∈ Ls.map (·.2), Pm n g) {k : Nat} {B : Bf} (hk : k < B.st.length) (h : Bf.J n Ls s0 B) : ∀ j, j ≤ Ls.length → Bf.J n Ls s0 (B.rows Ls k j).1
  | 0, _ => h
  | j + 1, hj => by
    rw [Bf.rows_succ k B (by omega)]
    have h1 := Bf.J.rows h0 hG hk h j (by omega)
    refine Bf.J.meet h0 hG (mem_getD_of_lt _ (by omega)) ?_ h1
    exact Nat.lt_of_lt_of_le hk ((Bf.rows_more k B j (by omega)).st.length_le)
theorem Bf.J.start (hG : ∀ g ∈ Ls.map (·.2), Pm n g) (hs : ∀ j, j < s0.length → 0 ≤ s0.getD j 0 ∧ s0.getD j 0 < n) : Bf.J n Ls s0 (Bf.run Ls s0 0) := by
  refine ⟨by simp [Bf.run], ⟨rfl, by simp [Bf.run]⟩, ?_, rfl, rfl, rfl⟩
  intro s h
  simp only [Bf.run, List.mem_singleton] at h
  subst h
  refine ⟨idn n, .one, ext (by simp [comp]) fun j hj => ?_⟩
  rw [comp_get _ _ hj]
  have := hs j hj
  rw [idn_get (by unfold img; omega)]
  unfold img; omega
theorem Bf.J.run (hG : ∀ g ∈ Ls.map (·.2), Pm n g) (hs : ∀ j, j < s0.length → 0 ≤ s0.getD j 0 ∧ s0.getD j 0 < n) : ∀ k, (∀ j, j < k → j < (Bf.run Ls s0 j).st.length) → Bf.J n Ls s0 (Bf.run Ls s0 k)
  | 0, _ => Bf.J.start hG hs
  | k + 1, h => by
    have ih := Bf.J.run hG hs k (fun j hj => h j (by omega))
    have h1 := Bf.J.rows (fun j hj => by have := hs j hj; unfold img; omega) hG (h k (by omega)) ih Ls.length (Nat.le_refl _)
    exact ⟨h1.nd, h1.ne, h1.gen, h1.ld, h1.lp, h1.lb⟩

/-- At the state number k behind j letters, the first j of its neighbors are there, and the row tells where. -/
theorem Bf.rows_row {k : Nat} {B : Bf} (hk : k < B.st.length) : ∀ j, j ≤ Ls.length → ∀ i, i < j → comp (B.st.getD k []) (Ls.getD i (0, [])).2 ∈ (B.rows Ls k j).1.st ∧
    (B.rows Ls k j).2.getD i 0 = (((B.rows Ls k j).1.st.idxOf (comp (B.st.getD k []) (Ls.getD i (0, [])).2) : Nat) : Int)
  | 0, _, i, hi => by omega
  | j + 1, hj, i, hi => by
    have hm := Bf.rows_more (Ls := Ls) k B j (by omega)
    have hl := Bf.rows_len (Ls := Ls) k B j (by omega)
    have e0 : (B.rows Ls k j).1.st.getD k [] = B.st.getD k [] := pre_getD hm.st hk []
    rw [Bf.rows_succ k B (by omega)]
    by_cases hij : i = j
    · subst hij
      unfold Bf.meet
      rw [e0]
      split
      · rename_i h
        refine ⟨h, ?_⟩
        rw [Go.Av.getD_append, if_neg (by omega), hl, Nat.sub_self]; rfl
      · rename_i h
        refine ⟨by simp, ?_⟩
        simp only
        rw [Go.Av.getD_append, if_neg (by omega), hl, Nat.sub_self, List.idxOf_append, if_neg h]
        simp
    · obtain ⟨h1, h2⟩ := Bf.rows_row hk j (by omega) i (by omega)
      have hm2 := Bf.meet_more k (B.rows Ls k j) (Ls.getD j (0, []))
      refine ⟨hm2.st.subset h1, ?_⟩
      have e1 : (Bf.meet k (B.rows Ls k j) (Ls.getD j (0, []))).1.st.idxOf (comp (B.st.getD k []) (Ls.getD i (0, [])).2) = (B.rows Ls k j).1.st.idxOf (comp (B.st.getD k []) (Ls.getD i (0, [])).2) := by
        obtain ⟨r, hr⟩ := hm2.st
        rw [← hr, List.idxOf_append, if_pos h1]
      rw [e1, ← h2]
      unfold Bf.meet
      split <;> (simp only; rw [Go.Av.getD_append, if_pos (by omega)])

/-- The search is over. -/
def Bf.Done (Ls : List (Int × List Int)) (s0 : List Int) (k : Nat) : Prop := k = (Bf.run Ls s0 k).st.length ∧ ∀ j, j < k → j < (Bf.run Ls s0 j).st.length

theorem Bf.Done.uniq {j k : Nat} (h : Bf.Done Ls s0 j) (h' : Bf.Done Ls s0 k) : j = k := by
  rcases Nat.lt_trichotomy j k with hl | he | hl
  · have := h'.2 j hl; have := h.1; omega
  · exact he
  · have := h.2 k hl; have := h'.1; omega

theorem Bf.Done.closed {k : Nat} (h : Bf.Done Ls s0 k) {s : List Int} (hs : s ∈ (Bf.run Ls s0 k).st) {l : Int × List Int} (hl : l ∈ Ls) : comp s l.2 ∈ (Bf.run Ls s0 k).st := by
  obtain ⟨i, hi, e⟩ := List.getElem_of_mem hs
  have hik : i < k := by rw [h.1]; exact hi
  have hi' := h.2 i hik
  have hm := Bf.run_more (Ls := Ls) (s0 := s0) (show i ≤ k by omega)
  have e1 : (Bf.run Ls s0 i).st.getD i [] = s := by
    rw [← pre_getD hm.st hi' [], List.getD_eq_getElem?_getD, List.getElem?_eq_getElem hi]; exact e
  obtain ⟨j, hj, ej⟩ := List.getElem_of_mem hl
  have h1 := (Bf.rows_row (Ls := Ls) hi' Ls.length (Nat.le_refl _) j hj).1
  rw [e1, List.getD_eq_getElem?_getD, List.getElem?_eq_getElem hj, Option.getD_some, ej] at h1
  have hm2 := Bf.run_more (Ls := Ls) (s0 := s0) (show i + 1 ≤ k by omega)
  exact hm2.st.subset h1

theorem Bf.Done.mem (hG : ∀ g ∈ Ls.map (·.2), Pm n g) (hs : ∀ j, j < s0.length → 0 ≤ s0.getD j 0 ∧ s0.getD j 0 < n) {k : Nat} (h : Bf.Done Ls s0 k) (s : List Int) : s ∈ (Bf.run Ls s0 k).st ↔ ∃ g, Gen n (Ls.map (·.2)) g ∧ s = comp s0 g := by
  constructor
  · exact (Bf.J.run hG hs k h.2).gen s
  · rintro ⟨g, hg, rfl⟩
    induction hg with
    | one =>
      have h1 := (Bf.J.run hG hs k h.2).ne
      have : comp s0 (idn n) = s0 := by
        refine ext (by simp [comp]) fun j hj => ?_
        rw [comp_length] at hj
        rw [comp_get _ _ hj]
        have := hs j hj
        rw [idn_get (by unfold img; omega)]
        unfold img; omega
      rw [this]
      have h2 := mem_getD_of_lt (l := (Bf.run Ls s0 k).st) [] h1.2
      rwa [h1.1] at h2
    | @mul p g hp hg ih =>
      obtain ⟨l, hl, rfl⟩ := List.mem_map.1 hg
      rw [← comp_assoc (fun j hj => by have := hs j hj; unfold img; omega) (hp.pm hG)]
      exact h.closed ih hl

end
end Go.Pm
end
