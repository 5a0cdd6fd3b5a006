/- Extending a stabilizer chain: what the loops keep. -/
import Derived.Test.YtfgblelbhlpfjaaG2
namespace Go.Pm
set_option linter.unusedVariables false

def rowsOf (n : Nat) : Nat → List (List Int)
  | 0 => [[]]
  | k + 1 => (List.range n).flatMap fun i : Nat => (rowsOf n k).map fun r => (i : Int) :: r
theorem rowsOf_mem (n : Nat) : ∀ (r : List Int), (∀ x, x ∈ r → ∃ i : Nat, i < n ∧ x = (i : Int)) → r ∈ rowsOf n r.length
  | [], _ => by simp [rowsOf]
  | x :: r, h => by
    obtain ⟨i, hi, rfl⟩ := h x (by simp)
    have := rowsOf_mem n r (fun y hy => h y (List.mem_cons_of_mem _ hy))
    simp only [List.length_cons, rowsOf, List.mem_flatMap, List.mem_range, List.mem_map]
    exact ⟨i, hi, r, this, rfl⟩
theorem nodup_of {α : Type} (L : List α) : ∃ M : List α, M.Nodup ∧ ∀ x, x ∈ M ↔ x ∈ L := by
  induction L with
  | nil => exact ⟨[], List.nodup_nil, fun x => Iff.rfl⟩
  | cons a L ih =>
    obtain ⟨M, h1, h2⟩ := ih
    by_cases h : a ∈ M
    · exact ⟨M, h1, fun x => by rw [h2, List.mem_cons]; constructor
                                · exact .inr
                                · rintro (rfl | hx)
                                  · exact (h2 _).1 h
                                  · exact hx⟩
    · exact ⟨a :: M, List.nodup_cons.2 ⟨h, h1⟩, fun x => by rw [List.mem_cons, List.mem_cons, h2]⟩
/-- In a finite group inverses are products. -/
theorem Gen.inv {n : Nat} {S : List (List Int)} (hS : ∀ g ∈ S, Pm n g) {g : List Int} (hg : Gen n S g) : Gen n S (invp g) := by
  obtain ⟨M, h1, h2⟩ := nodup_of (rowsOf n n)
  have dec : ∀ p, Decidable (Gen n S p) := fun p => Classical.propDecidable _
  refine Gen.inv_mem (L := M.filter fun p => @decide (Gen n S p) (dec p)) hS (fun p => ?_) (h1.filter _) hg
  rw [List.mem_filter, h2]
  constructor
  · rintro ⟨_, h⟩; exact @of_decide_eq_true _ (dec p) h
  · intro h
    refine ⟨?_, @decide_eq_true _ (dec p) h⟩
    have hp := h.pm hS
    have := rowsOf_mem n p (fun x hx => by
      obtain ⟨j, hj, rfl⟩ := List.mem_iff_getElem.1 hx
      have h3 := hp.2.1 j (by rw [← hp.1]; exact hj)
      rw [List.getD_eq_getElem?_getD, List.getElem?_eq_getElem hj] at h3
      simp only [Option.getD_some] at h3
      exact ⟨(p[j]).toNat, by omega, by omega⟩)
    rwa [hp.1] at this

/-- No generator lies in what those before it generate. -/
def Ind (n : Nat) (S : List (List Int)) : Prop := ∀ k, k < S.length → ¬ Gen n (S.take k) (S.getD k [])
theorem Ind.nil (n : Nat) : Ind n [] := fun k hk => by simp at hk
theorem Ind.snoc {n : Nat} {S : List (List Int)} {p : List Int} (h : Ind n S) (hp : ¬ Gen n S p) : Ind n (S ++ [p]) := fun k hk => by
  simp only [List.length_append, List.length_singleton] at hk
  by_cases e : k = S.length
  · subst e
    rw [List.take_left', List.getD_eq_getElem?_getD, List.getElem?_append_right (Nat.le_refl _)]
    · simpa using hp
    · rfl
  · have h1 := h k (by omega)
    rw [List.take_append_of_le_length (by omega), List.getD_eq_getElem?_getD, List.getElem?_append_left (by omega), ← List.getD_eq_getElem?_getD]
    exact h1
theorem rowsOf_length (n : Nat) : ∀ k, (rowsOf n k).length = n ^ k
  | 0 => rfl
  | k + 1 => by
    have ih := rowsOf_length n k
    have key : ∀ L : List Nat, (L.flatMap fun i : Nat => (rowsOf n k).map fun r => (i : Int) :: r).length = L.length * n ^ k := by
      intro L
      induction L with
      | nil => simp
      | cons a L h => rw [List.flatMap_cons, List.length_append, h, List.length_map, ih, List.length_cons, Nat.succ_mul]; omega
    rw [rowsOf, key, List.length_range, Nat.pow_succ, Nat.mul_comm]
theorem pm_rows {n : Nat} {p : List Int} (hp : Pm n p) : p ∈ rowsOf n n := by
  have := rowsOf_mem n p (fun x hx => by
    obtain ⟨j, hj, rfl⟩ := List.mem_iff_getElem.1 hx
    have h3 := hp.2.1 j (by rw [← hp.1]; exact hj)
    rw [List.getD_eq_getElem?_getD, List.getElem?_eq_getElem hj] at h3
    simp only [Option.getD_some] at h3
    exact ⟨(p[j]).toNat, by omega, by omega⟩)
  rwa [hp.1] at this
theorem Ind.many {n : Nat} {S : List (List Int)} (hS : ∀ g ∈ S, Pm n g) (h : Ind n S) : ∀ k, k ≤ S.length → ∃ L : List (List Int), L.Nodup ∧ 2 ^ k ≤ L.length ∧ ∀ x ∈ L, Gen n (S.take k) x
  | 0, _ => ⟨[idn n], by simp, by simp, fun x hx => by rw [List.mem_singleton] at hx; subst hx; exact .one⟩
  | k + 1, hk => by
    obtain ⟨L, h1, h2, h3⟩ := Ind.many hS h k (by omega)
    have e : S.take (k + 1) = S.take k ++ [S.getD k []] := by
      rw [List.take_succ_eq_append_getElem (by omega)]; simp [List.getD_eq_getElem?_getD, List.getElem?_eq_getElem (show k < S.length by omega)]
    have hg : S.getD k [] ∈ S := by
      rw [List.getD_eq_getElem?_getD, List.getElem?_eq_getElem (show k < S.length by omega)]; exact List.getElem_mem _
    have gp := hS _ hg
    have hSk : ∀ g ∈ S.take k, Pm n g := fun g hg => hS g (List.mem_of_mem_take hg)
    have hnot := h k (by omega)
    refine ⟨L ++ L.map fun x => comp x (S.getD k []), ?_, ?_, ?_⟩
    · refine List.nodup_append.2 ⟨h1, ?_, ?_⟩
      · rw [List.nodup_iff_pairwise_ne, List.pairwise_map]
        refine List.Pairwise.imp_of_mem (R := fun a b => a ≠ b) ?_ (List.nodup_iff_pairwise_ne.1 h1)
        intro a b ha hb hne e
        exact hne (((h3 a ha).pm hSk).right_inj ((h3 b hb).pm hSk) gp e)
      · intro x hx y hy exy
        obtain ⟨z, hz, rfl⟩ := List.mem_map.1 hy
        subst exy
        refine hnot ?_
        have zp := (h3 z hz).pm hSk
        have := Gen.prod hSk (Gen.inv hSk (h3 z hz)) (h3 _ hx)
        rwa [← zp.inv.assoc zp gp, zp.inv_comp, gp.idn_comp] at this
    · rw [List.length_append, List.length_map, Nat.pow_succ]; omega
    · intro x hx
      rw [e]
      rcases List.mem_append.1 hx with hx | hx
      · exact (h3 x hx).mono fun g hg => List.mem_append_left _ hg
      · obtain ⟨z, hz, rfl⟩ := List.mem_map.1 hx
        exact Gen.mul ((h3 z hz).mono fun g hg => List.mem_append_left _ hg) (by simp)
/-- A chain's rows of generators are short. -/
theorem Ind.short {n : Nat} {S : List (List Int)} (hn : n ≤ 20) (hS : ∀ g ∈ S, Pm n g) (h : Ind n S) : S.length ≤ 86 := by
  obtain ⟨L, h1, h2, h3⟩ := h.many hS S.length (Nat.le_refl _)
  have h4 := Go.Plain.nodup_le (rowsOf n n) L h1 (fun x hx => by
    have := (h3 x hx).pm (fun g hg => hS g (List.mem_of_mem_take hg))
    exact pm_rows this)
  rw [rowsOf_length] at h4
  have h5 : n ^ n ≤ 20 ^ 20 := Nat.le_trans (Nat.pow_le_pow_left hn n) (Nat.pow_le_pow_right (by decide) hn)
  refine Classical.byContradiction fun hc => ?_
  have h6 : 2 ^ 87 ≤ 2 ^ S.length := Nat.pow_le_pow_right (by decide) (by omega)
  have h7 : (20 : Nat) ^ 20 < 2 ^ 87 := by decide
  omega
def Ch.Ind (C : Ch) (n : Nat) : Prop := ∀ j, j < n → Go.Pm.Ind n (C.S j)

def Ch.addS (C : Ch) (i : Nat) (p : List Int) : Ch := ⟨fun j => if j = i then C.S i ++ [p] else C.S j, C.T⟩
def Ch.setT (C : Ch) (i k : Nat) (p : List Int) : Ch := ⟨C.S, fun j => if j = i then (fun y => if y = k then some p else C.T i y) else C.T j⟩
theorem Ch.addS_self (C : Ch) (i : Nat) (p : List Int) : (C.addS i p).S i = C.S i ++ [p] := by simp [Ch.addS]
theorem Ch.addS_ne (C : Ch) {i j : Nat} (p : List Int) (h : j ≠ i) : (C.addS i p).S j = C.S j := by simp [Ch.addS, h]
theorem Ch.setT_self (C : Ch) (i k : Nat) (p : List Int) (y : Nat) : (C.setT i k p).T i y = if y = k then some p else C.T i y := by simp [Ch.setT]
theorem Ch.setT_ne (C : Ch) {i j : Nat} (k : Nat) (p : List Int) (h : j ≠ i) : (C.setT i k p).T j = C.T j := by simp [Ch.setT, h]

/-- What adding p at the level l gives. -/
structure Ch.Add (n l : Nat) (C : Ch) (p : List Int) (C' : Ch) : Prop where
  eT : ∀ i, i < l → C'.T i = C.T i
  eS : ∀ i, i < l → C'.S i = C.S i
  wf : C'.WF n
  full : C'.Full n l
  mono : ∀ g, g ∈ C.S l → g ∈ C'.S l
  new : ∀ g, g ∈ C'.S l → g ∈ C.S l ∨ g = p
  has : C'.has (n - l) l p = true
  ind : C.Ind n → C'.Ind n

section
variable {C C0 C1 : Ch} {n l : Nat} {p : List Int} {q : List Int}

theorem Ch.WF.addS (w : C.WF n) (hp : Pm n p) (hf : fixB l p) : (C.addS l p).WF n :=
  ⟨w.t1, w.t0, fun i g hg => by
    by_cases h : i = l
    · subst h
      rw [Ch.addS_self] at hg
      rcases List.mem_append.1 hg with h | h
      · exact w.s1 _ _ h
      · rw [List.mem_singleton] at h; subst h; exact ⟨hp, hf⟩
    · rw [Ch.addS_ne _ _ h] at hg; exact w.s1 _ _ hg⟩
theorem Ch.WF.setT (w : C.WF n) {k : Nat} {t : List Int} (hk : k ≠ l) (ht : Pm n t) (hf : fixB l t) (he : img t l = k) : (C.setT l k t).WF n :=
  ⟨fun i y u hi hu => by
    by_cases h : i = l
    · subst h
      rw [Ch.setT_self] at hu
      split at hu
      · rename_i e; subst e; simp only [Option.some.injEq] at hu; subst hu; exact ⟨ht, hf, he⟩
      · exact w.t1 _ _ _ hi hu
    · rw [Ch.setT_ne _ _ _ h] at hu; exact w.t1 _ _ _ hi hu,
  fun i hi => by
    by_cases h : i = l
    · subst h; rw [Ch.setT_self, if_neg (fun e => hk e.symm)]; exact w.t0 _ hi
    · rw [Ch.setT_ne _ _ _ h]; exact w.t0 _ hi, w.s1⟩

/-- A new generator lies outside. -/
theorem Ch.Ind.addS (w : C.WF n) (hI : C.Ind n) (hF : C.Full n l) (hl : l < n) (hp : Pm n p) (hf : fixB l p) (hh : C.has (n - l) l p = false) : (C.addS l p).Ind n := fun j hj => by
  by_cases e : j = l
  · subst e
    rw [Ch.addS_self]
    refine (hI j hj).snoc fun hg => ?_
    rw [(Ch.has_iff w (n - j) j (by omega) hF p hp hf).2 hg] at hh
    simp at hh
  · rw [Ch.addS_ne _ _ e]; exact hI j hj
theorem Ch.Ind.short (w : C.WF n) (hI : C.Ind n) (hn : n ≤ 20) (hl : l < n) : (C.S l).length ≤ 86 := (hI l hl).short hn (w.gpm l)
theorem Ch.cnt_setT {k : Nat} {t : List Int} (hk : k < n) (h0 : C.T l k = none) : (C.setT l k t).cnt n l = C.cnt n l + 1 := by
  have key : ∀ m, (List.range m).countP (fun y => ((C.setT l k t).T l y).isSome) = (List.range m).countP (fun y => (C.T l y).isSome) + if k < m then 1 else 0 := by
    intro m
    induction m with
    | zero => simp
    | succ m ih =>
      rw [List.range_succ, List.countP_append, List.countP_append, ih]
      simp only [List.countP_cons, List.countP_nil, Ch.setT_self]
      by_cases h1 : m = k
      · subst h1; simp [h0]
      · simp only [if_neg h1]
        by_cases h2 : k < m
        · simp only [if_pos h2, if_pos (show k < m + 1 by omega)]; omega
        · simp only [if_neg h2, if_neg (show ¬ k < m + 1 by omega)]; omega
  unfold Ch.cnt
  rw [key, if_pos hk]
theorem Ch.cnt_le_n : C.cnt n l ≤ n := by
  unfold Ch.cnt
  exact Nat.le_trans List.countP_le_length (by simp)

/-- The orbit grows: q are the points that are still to be looked at. -/
structure Ph1 (n l : Nat) (C0 C : Ch) (q : List Int) : Prop where
  wf : C.WF n
  eT : ∀ i, i ≠ l → C.T i = C0.T i
  eS : C.S = C0.S
  tg : ∀ y t, C.T l y = some t → Gen n (C0.S l) t
  q1 : ∀ x, x ∈ q → ∃ y : Nat, y < n ∧ x = (y : Int) ∧ (C.T l y).isSome = true
  cl : ∀ y, (C.T l y).isSome = true → (y : Int) ∈ q ∨ ∀ g, g ∈ C0.S l → (C.T l (img g y)).isSome = true

theorem Ph1.lt (h : Ph1 n l C0 C q) (hl : l < n) {y : Nat} (hy : (C.T l y).isSome = true) : y < n := by
  cases e : C.T l y with
  | none => rw [e] at hy; simp at hy
  | some t => obtain ⟨h1, _, h3⟩ := h.wf.t1 l y t hl e; rw [← h3]; exact h1.img_lt hl
theorem Ph1.init (w : C.WF n) (hF : C.Full n l) (hl : l < n) (hp : Pm n p) (hf : fixB l p) (hq : ∀ x, x ∈ q ↔ ∃ y : Nat, y < n ∧ x = (y : Int) ∧ (C.T l y).isSome = true) : Ph1 n l (C.addS l p) (C.addS l p) q :=
  ⟨w.addS hp hf, fun _ _ => rfl, rfl, fun y t ht => ((hF l (Nat.le_refl _) hl).tg y t ht).mono (fun g hg => by rw [Ch.addS_self]; exact List.mem_append_left _ hg),
    fun x hx => (hq x).1 hx, fun y hy => .inl ((hq y).2 ⟨y, by
      cases e : C.T l y with
      | none => have : (C.T l y).isSome = true := hy; rw [e] at this; simp at this
      | some t => obtain ⟨h1, _, h3⟩ := w.t1 l y t hl e; rw [← h3]; exact h1.img_lt hl, rfl, hy⟩)⟩
theorem Ph1.push (h : Ph1 n l C0 C q) (hl : l < n) {y : Nat} {t g : List Int} (ht : C.T l y = some t) (hg : g ∈ C0.S l) (hn : C.T l (img g y) = none) : Ph1 n l C0 (C.setT l (img g y) (comp t g)) (q ++ [((img g y : Nat) : Int)]) := by
  obtain ⟨t1, t2, t3⟩ := h.wf.t1 l y t hl ht
  obtain ⟨g1, g2⟩ := h.wf.s1 l g (by rw [h.eS]; exact hg)
  have hyn : y < n := h.lt hl (by rw [ht]; rfl)
  have hSp : ∀ x, x ∈ C0.S l → Pm n x := fun x hx => (h.wf.s1 l x (by rw [h.eS]; exact hx)).1
  have hne : img g y ≠ l := fun e => by rw [e, h.wf.t0 l hl] at hn; simp at hn
  refine ⟨h.wf.setT hne (t1.comp g1) (fixB.comp t1 (by omega) t2 g2) (by rw [t1.cimg hl, t3]), fun i hi => by rw [Ch.setT_ne _ _ _ hi]; exact h.eT i hi, h.eS, ?_, ?_, ?_⟩
  · intro z u hu
    rw [Ch.setT_self] at hu
    split at hu
    · simp only [Option.some.injEq] at hu; subst hu
      exact Gen.prod hSp (h.tg y t ht) (Gen.of hSp hg)
    · exact h.tg z u hu
  · intro x hx
    rcases List.mem_append.1 hx with hx | hx
    · obtain ⟨z, h1, h2, h3⟩ := h.q1 x hx
      refine ⟨z, h1, h2, ?_⟩
      rw [Ch.setT_self]; split
      · rfl
      · exact h3
    · rw [List.mem_singleton] at hx
      exact ⟨_, g1.img_lt hyn, hx, by rw [Ch.setT_self, if_pos rfl]; rfl⟩
  · intro z hz
    rw [Ch.setT_self] at hz
    split at hz
    · rename_i e; subst e; exact .inl (List.mem_append_right _ (by simp))
    · rcases h.cl z hz with h1 | h1
      · exact .inl (List.mem_append_left _ h1)
      · refine .inr fun x hx => ?_
        rw [Ch.setT_self]; split
        · rfl
        · exact h1 x hx
theorem Ph1.pop {y : Nat} (h : Ph1 n l C0 C ((y : Int) :: q)) (hd : ∀ g, g ∈ C0.S l → (C.T l (img g y)).isSome = true) : Ph1 n l C0 C q :=
  ⟨h.wf, h.eT, h.eS, h.tg, fun x hx => h.q1 x (List.mem_cons_of_mem _ hx), fun z hz => by
    rcases h.cl z hz with h1 | h1
    · rcases List.mem_cons.1 h1 with h2 | h2
      · have e : z = y := by omega
        subst e; exact .inr hd
      · exact .inl h2
    · exact .inr h1⟩

/-- The quotient that a point and a generator give. -/
def Ch.quo (C : Ch) (l y : Nat) (g : List Int) : List Int := comp (comp ((C.T l y).getD []) g) (invp ((C.T l (img g y)).getD []))

/-- The orbit stands; the quotients are added one by one. -/
structure Ph2 (n l : Nat) (C0 C : Ch) : Prop where
  wf : C.WF n
  eT : ∀ i, i ≤ l → C.T i = C0.T i
  eS : ∀ i, i ≤ l → C.S i = C0.S i
  full : C.Full n (l + 1)
  tg : ∀ y t, C0.T l y = some t → Gen n (C0.S l) t
  cl : ∀ y g, (C0.T l y).isSome = true → g ∈ C0.S l → (C0.T l (img g y)).isSome = true
  sg : ∀ g, g ∈ C.S (l + 1) → Gen n (C0.S l) g
  ind : C.Ind n

theorem Ch.Full.of_eq (h : C0.Full n l) (eT : ∀ i, l ≤ i → C.T i = C0.T i) (eS : ∀ i, l ≤ i → C.S i = C0.S i) : C.Full n l := fun j hj hjn => by
  have o := h j hj hjn
  refine ⟨?_, ?_, ?_⟩
  · intro y t g ht hg
    rw [eT j hj] at ht ⊢
    rw [eS j hj] at hg
    obtain ⟨u, h1, h2⟩ := o.cl y t g ht hg
    exact ⟨u, h1, by rw [Ch.has_congr _ _ _ (fun i hi => eT i (by omega))]; exact h2⟩
  · intro y t ht
    rw [eT j hj] at ht
    rw [eS j hj]
    exact o.tg y t ht
  · intro g hg
    rw [eS (j + 1) (by omega)] at hg
    rw [eS j hj]
    exact o.sg g hg

/-- The start: C1 is the chain with the generator, C the one whose orbit is closed. -/
theorem Ph2.init (w0 : C1.WF n) (hF : C1.Full n l) (hl : l < n) (hp : Pm n p) (hf : fixB l p) (hI : (C1.addS l p).Ind n) (h : Ph1 n l (C1.addS l p) C []) : Ph2 n l C C := by
  have e1 : ∀ i, l + 1 ≤ i → C.T i = C1.T i := fun i hi => h.eT i (by omega)
  have e2 : ∀ i, l + 1 ≤ i → C.S i = C1.S i := fun i hi => by rw [h.eS, Ch.addS_ne _ _ (by omega)]
  have hS : C.S l = C1.S l ++ [p] := by rw [h.eS, Ch.addS_self]
  have hF1 : C1.Full n (l + 1) := fun j hj hjn => hF j (by omega) hjn
  refine ⟨h.wf, fun _ _ => rfl, fun _ _ => rfl, hF1.of_eq e1 e2, ?_, ?_, ?_, ?_⟩
  · intro y t ht; rw [h.eS]; exact h.tg y t ht
  · intro y g hy hg
    rcases h.cl y hy with h1 | h1
    · simp at h1
    · exact h1 g (by rw [← h.eS]; exact hg)
  · intro g hg
    rw [e2 (l + 1) (by omega)] at hg
    rw [hS]
    exact ((hF l (Nat.le_refl _) hl).sg g hg).mono fun x hx => List.mem_append_left _ hx
  · intro j hj; rw [h.eS]; exact hI j hj

theorem Ph2.quo_fix (h : Ph2 n l C0 C) (hl : l < n) {y : Nat} {g : List Int} (hy : (C0.T l y).isSome = true) (hg : g ∈ C0.S l) : Pm n (C0.quo l y g) ∧ fixB (l + 1) (C0.quo l y g) ∧ Gen n (C0.S l) (C0.quo l y g) := by
  have hu := h.cl y g hy hg
  have hpmS : ∀ x, x ∈ C0.S l → Pm n x := fun x hx => (h.wf.s1 l x (by rw [h.eS l (Nat.le_refl _)]; exact hx)).1
  cases e : C0.T l y with
  | none => rw [e] at hy; simp at hy
  | some t =>
    cases e2 : C0.T l (img g y) with
    | none => rw [e2] at hu; simp at hu
    | some u =>
      have w1 := h.wf.t1 l y t hl (by rw [h.eT l (Nat.le_refl _)]; exact e)
      have w2 := h.wf.t1 l _ u hl (by rw [h.eT l (Nat.le_refl _)]; exact e2)
      have wg := h.wf.s1 l g (by rw [h.eS l (Nat.le_refl _)]; exact hg)
      unfold Ch.quo
      rw [e, e2]
      simp only [Option.getD_some]
      refine ⟨(w1.1.comp wg.1).comp w2.1.inv, fixB.quot (w1.1.comp wg.1) w2.1 hl (fixB.comp w1.1 (by omega) w1.2.1 wg.2) w2.2.1 (by rw [w2.2.2, w1.1.cimg hl, w1.2.2]), ?_⟩
      exact Gen.prod hpmS (Gen.prod hpmS (h.tg y t e) (Gen.of hpmS hg)) (Gen.inv hpmS (h.tg _ u e2))
/-- One quotient more. -/
theorem Ph2.step (h : Ph2 n l C0 C) {x : List Int} (hx : Gen n (C0.S l) x) (a : Ch.Add n (l + 1) C x C1) : Ph2 n l C0 C1 :=
  ⟨a.wf, fun i hi => by rw [a.eT i (by omega)]; exact h.eT i hi, fun i hi => by rw [a.eS i (by omega)]; exact h.eS i hi, a.full, h.tg, h.cl, fun g hg => by
    rcases a.new g hg with h1 | rfl
    · exact h.sg g h1
    · exact hx, a.ind h.ind⟩
theorem Ph2.keep (h : Ph2 n l C0 C) (hl : l < n) {x : List Int} (a : Ch.Add n (l + 1) C x C1) {z : List Int} (hz : Pm n z) (hf : fixB (l + 1) z) (hh : C.has (n - (l + 1)) (l + 1) z = true) : C1.has (n - (l + 1)) (l + 1) z = true :=
  Ch.has_mono h.wf a.wf (by omega) h.full a.full a.mono hz hf hh
/-- The end: all quotients are there. -/
theorem Ph2.fin (h : Ph2 n l C0 C) (hl : l < n) (hd : ∀ y g, (C0.T l y).isSome = true → g ∈ C0.S l → C.has (n - (l + 1)) (l + 1) (C0.quo l y g) = true) : C.Full n l := fun j hj hjn => by
  by_cases e : j = l
  · subst e
    refine ⟨?_, ?_, ?_⟩
    · intro y t g ht hg
      rw [h.eT j (Nat.le_refl _)] at ht
      rw [h.eS j (Nat.le_refl _)] at hg
      have h1 := h.cl y g (by rw [ht]; rfl) hg
      have h2 := hd y g (by rw [ht]; rfl) hg
      cases e2 : C0.T j (img g y) with
      | none => rw [e2] at h1; simp at h1
      | some u =>
        unfold Ch.quo at h2
        rw [ht, e2] at h2
        exact ⟨u, by rw [h.eT j (Nat.le_refl _)]; exact e2, h2⟩
    · intro y t ht
      rw [h.eT j (Nat.le_refl _)] at ht
      rw [h.eS j (Nat.le_refl _)]
      exact h.tg y t ht
    · intro g hg
      rw [h.eS j (Nat.le_refl _)]
      exact h.sg g hg
  · exact h.full j (by omega) hjn
/-- What was asked for. -/
theorem Ph2.add {C2 : Ch} (w0 : C1.WF n) (hl : l < n) (hp : Pm n p) (hf : fixB l p) (h1 : Ph1 n l (C1.addS l p) C0 []) (h : Ph2 n l C0 C2) (hF : C2.Full n l) : Ch.Add n l C1 p C2 := by
  have hS : C2.S l = C1.S l ++ [p] := by rw [h.eS l (Nat.le_refl _), h1.eS, Ch.addS_self]
  refine ⟨fun i hi => by rw [h.eT i (by omega), h1.eT i (by omega)]; rfl, fun i hi => by rw [h.eS i (by omega), h1.eS, Ch.addS_ne _ _ (by omega)], h.wf, hF, fun g hg => by rw [hS]; exact List.mem_append_left _ hg, fun g hg => by rw [hS] at hg; simpa using hg, ?_, fun _ => h.ind⟩
  refine (Ch.has_iff h.wf (n - l) l (by omega) hF p hp hf).2 (Gen.of (h.wf.gpm l) (by rw [hS]; simp))
theorem Ch.Add.none (w : C.WF n) (hF : C.Full n l) (h : C.has (n - l) l p = true) : Ch.Add n l C p C :=
  ⟨fun _ _ => rfl, fun _ _ => rfl, w, hF, fun _ h => h, fun _ h => .inl h, h, id⟩
theorem Ch.Add.gen {S : List (List Int)} (a : Ch.Add n 0 C p C1) (hp : Pm n p) (hS : ∀ g ∈ S, Pm n g) (h : ∀ g, Gen n S g ↔ Gen n (C.S 0) g) : ∀ g, Gen n (S ++ [p]) g ↔ Gen n (C1.S 0) g := by
  have hS1 : ∀ g ∈ S ++ [p], Pm n g := fun g hg => by
    rcases List.mem_append.1 hg with hg | hg
    · exact hS g hg
    · rw [List.mem_singleton] at hg; subst hg; exact hp
  intro g
  constructor
  · intro hg
    refine hg.sub (a.wf.gpm 0) fun x hx => ?_
    rcases List.mem_append.1 hx with hx | hx
    · exact ((h x).1 (Gen.of hS hx)).mono a.mono
    · rw [List.mem_singleton] at hx; subst hx
      exact (Ch.has_iff a.wf n 0 (by omega) a.full _ hp (fun j hj => by omega)).1 a.has
  · intro hg
    refine hg.sub hS1 fun x hx => ?_
    rcases a.new x hx with hx | rfl
    · refine ((h x).2 ?_).mono fun y hy => List.mem_append_left _ hy
      refine Gen.of (fun y hy => ?_) hx
      exact a.wf.gpm 0 y (a.mono y hy)
    · exact Gen.of hS1 (by simp)
end
end Go.Pm
