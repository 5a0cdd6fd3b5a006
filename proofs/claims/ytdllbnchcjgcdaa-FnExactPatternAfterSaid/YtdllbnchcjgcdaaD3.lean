import Derived.Test.YtdllbnchcjgcdaaD2
/- Permutations as rows of numbers: composition, inverse, what generators generate. -/
section
namespace Go.Pm

/-- p is a permutation of n points. -/
def Pm (n : Nat) (p : List Int) : Prop := p.length = n ∧ (∀ j, j < n → 0 ≤ p.getD j 0 ∧ p.getD j 0 < n) ∧ ∀ i j, i < n → j < n → p.getD i 0 = p.getD j 0 → i = j

def img (p : List Int) (i : Nat) : Nat := (p.getD i 0).toNat
def comp (p q : List Int) : List Int := p.map fun x => q.getD x.toNat 0
def idn (n : Nat) : List Int := (List.range n).map fun i : Nat => (i : Int)
def invp (p : List Int) : List Int := (List.range p.length).map fun i : Nat => ((p.findIdx fun x => decide (x = (i : Int)) : Nat) : Int)

theorem ext {p q : List Int} (hl : p.length = q.length) (h : ∀ j, j < p.length → p.getD j 0 = q.getD j 0) : p = q := by
  refine List.ext_getElem hl fun i h1 h2 => ?_
  have := h i h1
  simpa [List.getD_eq_getElem?_getD, h1, h2] using this

theorem comp_length (p q : List Int) : (comp p q).length = p.length := by simp [comp]
theorem comp_get (p q : List Int) {i : Nat} (h : i < p.length) : (comp p q).getD i 0 = q.getD (img p i) 0 := by
  simp [comp, img, List.getD_eq_getElem?_getD, h]
theorem idn_length (n : Nat) : (idn n).length = n := by simp [idn]
theorem idn_get {n i : Nat} (h : i < n) : (idn n).getD i 0 = i := by simp [idn, List.getD_eq_getElem?_getD, h]
theorem img_idn {n i : Nat} (h : i < n) : img (idn n) i = i := by unfold img; rw [idn_get h]; rfl
theorem img_comp (p q : List Int) {i : Nat} (h : i < p.length) : img (comp p q) i = img q (img p i) := by
  unfold img; rw [comp_get p q h]; rfl

namespace Pm
variable {n : Nat} {p q r : List Int}
theorem img_lt (h : Pm n p) {i : Nat} (hi : i < n) : img p i < n := by
  have := h.2.1 i hi
  unfold Pm.img; omega
theorem get_eq (h : Pm n p) {i : Nat} (hi : i < n) : p.getD i 0 = (img p i : Int) := by
  have := h.2.1 i hi
  unfold Pm.img; omega
theorem inj (h : Pm n p) {i j : Nat} (hi : i < n) (hj : j < n) (e : img p i = img p j) : i = j :=
  h.2.2 i j hi hj (by rw [h.get_eq hi, h.get_eq hj, e])
theorem ext_img (h : Pm n p) (k : Pm n q) (e : ∀ i, i < n → img p i = img q i) : p = q :=
  Go.Pm.ext (h.1.trans k.1.symm) fun j hj => by
    rw [h.1] at hj
    rw [h.get_eq hj, k.get_eq hj, e j hj]
theorem idn (n : Nat) : Pm n (idn n) :=
  ⟨idn_length n, fun j hj => by rw [idn_get hj]; omega, fun i j hi hj e => by rw [idn_get hi, idn_get hj] at e; omega⟩
theorem mk' (hl : p.length = n) (h1 : ∀ j, j < n → ∃ k, k < n ∧ p.getD j 0 = (k : Int)) (h2 : ∀ i j, i < n → j < n → img p i = img p j → i = j) : Pm n p :=
  ⟨hl, fun j hj => by obtain ⟨k, h3, h4⟩ := h1 j hj; omega, fun i j hi hj e => h2 i j hi hj (by unfold Pm.img; rw [e])⟩
theorem comp (h : Pm n p) (k : Pm n q) : Pm n (comp p q) := by
  refine mk' (by rw [comp_length]; exact h.1) (fun j hj => ⟨img q (img p j), k.img_lt (h.img_lt hj), ?_⟩) fun i j hi hj e => ?_
  · rw [comp_get _ _ (by rw [h.1]; exact hj), k.get_eq (h.img_lt hj)]
  · rw [img_comp _ _ (by rw [h.1]; exact hi), img_comp _ _ (by rw [h.1]; exact hj)] at e
    exact h.inj hi hj (k.inj (h.img_lt hi) (h.img_lt hj) e)
theorem cimg (h : Pm n p) {i : Nat} (hi : i < n) : img (Go.Pm.comp p q) i = img q (img p i) := img_comp _ _ (by rw [h.1]; exact hi)

/-- Every point is met. -/
theorem surj (h : Pm n p) {i : Nat} (hi : i < n) : ∃ j, j < n ∧ img p j = i := by
  have hn : ((List.range n).map (img p)).Nodup := by
    rw [List.nodup_iff_pairwise_ne, List.pairwise_map]
    refine List.Pairwise.imp_of_mem (R := fun a b => a ≠ b) ?_ (List.nodup_iff_pairwise_ne.1 List.nodup_range)
    intro a b ha hb hne e
    exact hne (h.inj (by simpa using ha) (by simpa using hb) e)
  have := (Go.Plain.nodup_iff_all (l := (List.range n).map (img p)) (n := n) (by simp) (fun x hx => by
    obtain ⟨j, hj, rfl⟩ := List.mem_map.1 hx
    exact h.img_lt (by simpa using hj))).1 hn i hi
  obtain ⟨j, hj, e⟩ := List.mem_map.1 this
  exact ⟨j, by simpa using hj, e⟩

theorem find (h : Pm n p) {i : Nat} (hi : i < n) : p.findIdx (fun x => decide (x = (i : Int))) < n ∧ img p (p.findIdx fun x => decide (x = (i : Int))) = i := by
  obtain ⟨j, hj, e⟩ := h.surj hi
  have hlt : p.findIdx (fun x => decide (x = (i : Int))) < p.length := by
    rw [List.findIdx_lt_length]
    refine ⟨p.getD j 0, ?_, ?_⟩
    · have hj' : j < p.length := by rw [h.1]; exact hj
      rw [List.getD_eq_getElem?_getD, List.getElem?_eq_getElem hj']
      exact List.getElem_mem hj'
    · rw [h.get_eq hj, e]; simp
  have := List.findIdx_getElem (w := hlt)
  refine ⟨by rw [← h.1]; exact hlt, ?_⟩
  simp only [decide_eq_true_eq] at this
  unfold Pm.img
  rw [List.getD_eq_getElem?_getD, List.getElem?_eq_getElem hlt, Option.getD_some, this]
  simp
theorem inv_get (h : Pm n p) {i : Nat} (hi : i < n) : (invp p).getD i 0 = ((p.findIdx fun x => decide (x = (i : Int)) : Nat) : Int) := by
  have : i < p.length := by rw [h.1]; exact hi
  simp [invp, List.getD_eq_getElem?_getD, this]
theorem inv_img (h : Pm n p) {i : Nat} (hi : i < n) : img p (img (invp p) i) = i := by
  have : img (invp p) i = p.findIdx fun x => decide (x = (i : Int)) := by unfold Pm.img; rw [h.inv_get hi]; rfl
  rw [this]; exact (h.find hi).2
theorem inv (h : Pm n p) : Pm n (invp p) := by
  refine mk' (by simp [invp, h.1]) (fun j hj => ⟨_, (h.find hj).1, h.inv_get hj⟩) fun i j hi hj e => ?_
  rw [← h.inv_img hi, ← h.inv_img hj, e]
theorem img_inv (h : Pm n p) {i : Nat} (hi : i < n) : img (invp p) (img p i) = i :=
  h.inj (h.inv.img_lt (h.img_lt hi)) hi (h.inv_img (h.img_lt hi))

theorem comp_idn (h : Pm n p) : Go.Pm.comp p (Go.Pm.idn n) = p :=
  (h.comp (.idn n)).ext_img h fun i hi => by rw [h.cimg hi, img_idn (h.img_lt hi)]
theorem idn_comp (h : Pm n p) : Go.Pm.comp (Go.Pm.idn n) p = p :=
  ((Pm.idn n).comp h).ext_img h fun i hi => by rw [(Pm.idn n).cimg hi, img_idn hi]
theorem assoc (h : Pm n p) (k : Pm n q) (l : Pm n r) : Go.Pm.comp (Go.Pm.comp p q) r = Go.Pm.comp p (Go.Pm.comp q r) :=
  ((h.comp k).comp l).ext_img (h.comp (k.comp l)) fun i hi => by
    rw [(h.comp k).cimg hi, h.cimg hi, h.cimg hi, k.cimg (h.img_lt hi)]
end Pm

/-- What is generated (products of generators, applied one after the other). -/
inductive Gen (n : Nat) (S : List (List Int)) : List Int → Prop
  | one : Gen n S (idn n)
  | mul {p g : List Int} : Gen n S p → g ∈ S → Gen n S (comp p g)

section
variable {n : Nat} {S S' : List (List Int)} {p q : List Int}
theorem Gen.pm (hS : ∀ g ∈ S, Pm n g) (h : Gen n S p) : Pm n p := by
  induction h with
  | one => exact .idn n
  | mul _ hg ih => exact ih.comp (hS _ hg)
theorem Gen.prod (hS : ∀ g ∈ S, Pm n g) (h : Gen n S p) (k : Gen n S q) : Gen n S (comp p q) := by
  induction k with
  | one => rw [(h.pm hS).comp_idn]; exact h
  | mul k hg ih => rw [← (h.pm hS).assoc (k.pm hS) (hS _ hg)]; exact ih.mul hg
theorem Gen.of (hS : ∀ g ∈ S, Pm n g) (h : p ∈ S) : Gen n S p := by
  have := (Gen.one (n := n) (S := S)).mul h
  rwa [(hS _ h).idn_comp] at this
theorem Gen.sub (hS : ∀ g ∈ S', Pm n g) (hs : ∀ g ∈ S, Gen n S' g) (h : Gen n S p) : Gen n S' p := by
  induction h with
  | one => exact .one
  | mul _ hg ih => exact ih.prod hS (hs _ hg)
theorem Gen.mono (hs : ∀ g ∈ S, g ∈ S') (h : Gen n S p) : Gen n S' p := by
  induction h with
  | one => exact .one
  | mul _ hg ih => exact ih.mul (hs _ hg)
end
end Go.Pm
end
/- Chains of stabilizers: what they hold, and how many. -/
section
namespace Go.Pm

structure Ch where
  S : Nat → List (List Int)
  T : Nat → Nat → Option (List Int)

/-- The points before i stay. -/
def fixB (i : Nat) (p : List Int) : Prop := ∀ j, j < i → img p j = j

/-- Sifting: k levels from level i on. -/
def Ch.has (C : Ch) : Nat → Nat → List Int → Bool
  | 0, _, _ => true
  | k + 1, i, p => match C.T i (img p i) with
    | none => false
    | some t => C.has k (i + 1) (comp p (invp t))

structure Ch.WF (C : Ch) (n : Nat) : Prop where
  t1 : ∀ i y t, i < n → C.T i y = some t → Pm n t ∧ fixB i t ∧ img t i = y
  t0 : ∀ i, i < n → C.T i i = some (idn n)
  s1 : ∀ i g, g ∈ C.S i → Pm n g ∧ fixB i g

/-- The level j is done. -/
structure Ch.Ok (C : Ch) (n j : Nat) : Prop where
  cl : ∀ y t g, C.T j y = some t → g ∈ C.S j → ∃ u, C.T j (img g y) = some u ∧ C.has (n - (j + 1)) (j + 1) (comp (comp t g) (invp u)) = true
  tg : ∀ y t, C.T j y = some t → Gen n (C.S j) t
  sg : ∀ g, g ∈ C.S (j + 1) → Gen n (C.S j) g

theorem fixB.idn (n i : Nat) (h : i ≤ n) : fixB i (idn n) := fun j hj => img_idn (by omega)
theorem fixB.comp {n i : Nat} {p q : List Int} (hp : Pm n p) (hi : i ≤ n) (h : fixB i p) (k : fixB i q) : fixB i (comp p q) := fun j hj => by
  rw [hp.cimg (by omega), h j hj, k j hj]
theorem fixB.inv {n i : Nat} {p : List Int} (hp : Pm n p) (hi : i ≤ n) (h : fixB i p) : fixB i (invp p) := fun j hj => by
  have := hp.img_inv (i := j) (by omega)
  rwa [h j hj] at this
theorem fixB.all {n : Nat} {p : List Int} (hp : Pm n p) (h : fixB n p) : p = Go.Pm.idn n :=
  hp.ext_img (.idn n) fun i hi => by rw [h i hi, img_idn hi]

section
variable {C C' : Ch} {n : Nat}

end

end Go.Pm
end
/- Breadth-first search over rows of positions: what both texts compute. -/
section
namespace Go.Pm
set_option linter.unusedVariables false

structure Bf where
  st : List (List Int)
  dp : List Int
  pa : List Int
  bl : List Int
  nx : List (List Int)

/-- One letter at the state number k. -/
def Bf.meet (k : Nat) (x : Bf × List Int) (l : Int × List Int) : Bf × List Int :=
  if comp (x.1.st.getD k []) l.2 ∈ x.1.st then (x.1, x.2 ++ [((x.1.st.idxOf (comp (x.1.st.getD k []) l.2) : Nat) : Int)])
  else ({ x.1 with st := x.1.st ++ [comp (x.1.st.getD k []) l.2], dp := x.1.dp ++ [x.1.dp.getD k 0 + 1], pa := x.1.pa ++ [(k : Int)], bl := x.1.bl ++ [l.1] }, x.2 ++ [(x.1.st.length : Int)])
def Bf.rows (Ls : List (Int × List Int)) (k : Nat) (B : Bf) (j : Nat) : Bf × List Int := (Ls.take j).foldl (Bf.meet k) (B, [])
def Bf.step (Ls : List (Int × List Int)) (k : Nat) (B : Bf) : Bf := { (B.rows Ls k Ls.length).1 with nx := B.nx ++ [(B.rows Ls k Ls.length).2] }
def Bf.run (Ls : List (Int × List Int)) (s0 : List Int) : Nat → Bf
  | 0 => ⟨[s0], [0], [0], [0], []⟩
  | k + 1 => (Bf.run Ls s0 k).step Ls k

section
variable {Ls : List (Int × List Int)} {s0 : List Int} {n : Nat}

theorem Bf.rows_succ (k : Nat) (B : Bf) {j : Nat} (h : j < Ls.length) : B.rows Ls k (j + 1) = Bf.meet k (B.rows Ls k j) (Ls.getD j (0, [])) := by
  unfold Bf.rows
  rw [List.take_succ_eq_append_getElem h, List.foldl_append]
  simp [List.getD_eq_getElem?_getD, h]

/-- y comes of x by more states. -/
structure Bf.More (x y : Bf) : Prop where
  st : x.st <+: y.st
  dp : x.dp <+: y.dp
  pa : x.pa <+: y.pa
  bl : x.bl <+: y.bl
  nx : x.nx <+: y.nx
theorem Bf.More.refl (x : Bf) : Bf.More x x := ⟨List.prefix_refl _, List.prefix_refl _, List.prefix_refl _, List.prefix_refl _, List.prefix_refl _⟩
theorem Bf.More.trans {x y z : Bf} (h : Bf.More x y) (k : Bf.More y z) : Bf.More x z := ⟨h.st.trans k.st, h.dp.trans k.dp, h.pa.trans k.pa, h.bl.trans k.bl, h.nx.trans k.nx⟩
theorem Bf.meet_more (k : Nat) (x : Bf × List Int) (l : Int × List Int) : Bf.More x.1 (Bf.meet k x l).1 := by
  unfold Bf.meet
  split
  · exact .refl _
  · exact ⟨List.prefix_append _ _, List.prefix_append _ _, List.prefix_append _ _, List.prefix_append _ _, List.prefix_refl _⟩
theorem Bf.rows_more (k : Nat) (B : Bf) : ∀ j, j ≤ Ls.length → Bf.More B (B.rows Ls k j).1
  | 0, _ => .refl _
  | j + 1, h => by
    rw [Bf.rows_succ k B (by omega)]
    exact (Bf.rows_more k B j (by omega)).trans (Bf.meet_more _ _ _)
theorem Bf.rows_len (k : Nat) (B : Bf) : ∀ j, j ≤ Ls.length → (B.rows Ls k j).2.length = j
  | 0, _ => rfl
  | j + 1, h => by
    rw [Bf.rows_succ k B (by omega)]
    have := Bf.rows_len k B j (by omega)
    unfold Bf.meet
    split <;> simp [this]
theorem Bf.step_more (k : Nat) (B : Bf) : Bf.More B (B.step Ls k) := by
  have := Bf.rows_more (Ls := Ls) k B Ls.length (Nat.le_refl _)
  exact ⟨this.st, this.dp, this.pa, this.bl, List.prefix_append _ _⟩
theorem Bf.run_more {j k : Nat} (h : j ≤ k) : Bf.More (Bf.run Ls s0 j) (Bf.run Ls s0 k) := by
  induction k with
  | zero => rw [show j = 0 by omega]; exact .refl _
  | succ k ih =>
    by_cases e : j = k + 1
    · rw [e]; exact .refl _
    · exact (ih (by omega)).trans (Bf.step_more _ _)
theorem pre_getD {α : Type} {l m : List α} (h : l <+: m) {i : Nat} (hi : i < l.length) (d : α) : m.getD i d = l.getD i d := by
  obtain ⟨r, rfl⟩ := h
  simp [List.getD_eq_getElem?_getD, List.getElem?_append_left hi]

/-- What holds of every state of the search. -/
structure Bf.J (n : Nat) (Ls : List (Int × List Int)) (s0 : List Int) (B : Bf) : Prop where
  nd : B.st.Nodup
  ne : B.st.getD 0 [] = s0 ∧ 0 < B.st.length
  gen : ∀ s ∈ B.st, ∃ g, Gen n (Ls.map (·.2)) g ∧ s = comp s0 g
  ld : B.dp.length = B.st.length
  lp : B.pa.length = B.st.length
  lb : B.bl.length = B.st.length

theorem comp_assoc {p q r : List Int} {n : Nat} (hp : ∀ j, j < p.length → img p j < n) (hq : Pm n q) : comp (comp p q) r = comp p (comp q r) := by
  refine ext (by simp [comp]) fun j hj => ?_
  rw [comp_length, comp_length] at hj
  rw [comp_get _ _ (by rw [comp_length]; exact hj), comp_get _ _ hj, img_comp _ _ hj, comp_get _ _ (by rw [hq.1]; exact hp j hj)]

theorem mem_getD_of_lt {α : Type} {l : List α} {i : Nat} (d : α) (h : i < l.length) : l.getD i d ∈ l := by
  rw [List.getD_eq_getElem?_getD, List.getElem?_eq_getElem h]
  exact List.getElem_mem h

theorem Bf.J.meet (h0 : ∀ j, j < s0.length → img s0 j < n) (hG : ∀ g ∈ Ls.map (·.2), Pm n g) {k : Nat} {x : Bf × List Int} {l : Int × List Int} (hl : l ∈ Ls) (hk : k < x.1.st.length) (h : Bf.J n Ls s0 x.1) : Bf.J n Ls s0 (Bf.meet k x l).1 := by
  unfold Bf.meet
  split
  · exact h
  · rename_i hn
    have hm : x.1.st.getD k [] ∈ x.1.st := mem_getD_of_lt _ hk
    refine ⟨?_, ⟨?_, by simp⟩, ?_, by simp [h.ld], by simp [h.lp], by simp [h.lb]⟩
    · refine List.nodup_append.2 ⟨h.nd, by simp, ?_⟩
      intro a ha b hb
      simp only [List.mem_singleton] at hb
      subst hb
      intro e; exact hn (e ▸ ha)
    · have := h.ne
      rw [pre_getD (List.prefix_append _ _) this.2]; exact this.1
    · intro s hs
      simp only [List.mem_append, List.mem_singleton] at hs
      rcases hs with hs | rfl
      · exact h.gen s hs
      · obtain ⟨g, hg, e⟩ := h.gen _ hm
        refine ⟨comp g l.2, hg.mul (List.mem_map.2 ⟨l, hl, rfl⟩), ?_⟩
        rw [e, comp_assoc h0 (hg.pm hG)]
theorem Bf.J.rows (h0 : ∀ j, j < s0.length → img s0 j < n) (hG : ∀ g ∈ Ls.map (·.2), Pm n g) {k : Nat} {B : Bf} (hk : k < B.st.length) (h : Bf.J n Ls s0 B) : ∀ j, j ≤ Ls.length → Bf.J n Ls s0 (B.rows Ls k j).1
  | 0, _ => h
  | j + 1, hj => by
    rw [Bf.rows_succ k B (by omega)]
    have h1 := Bf.J.rows h0 hG hk h j (by omega)
    refine Bf.J.meet h0 hG (mem_getD_of_lt _ (by omega)) ?_ h1
    exact Nat.lt_of_lt_of_le hk ((Bf.rows_more k B j (by omega)).st.length_le)
theorem Bf.J.start (hG : ∀ g ∈ Ls.map (·.2), Pm n g) (hs : ∀ j, j < s0.length → 0 ≤ s0.getD j 0 ∧ s0.getD j 0 < n) : Bf.J n Ls s0 (Bf.run Ls s0 0) := by
  refine ⟨by simp [Bf.run], ⟨rfl, by simp [Bf.run]⟩, ?_, rfl, rfl, rfl⟩
  intro s h
  simp only [Bf.run, List.mem_singleton] at h
  subst h
  refine ⟨idn n, .one, ext (by simp [comp]) fun j hj => ?_⟩
  rw [comp_get _ _ hj]
  have := hs j hj
  rw [idn_get (by unfold img; omega)]
  unfold img; omega
theorem Bf.J.run (hG : ∀ g ∈ Ls.map (·.2), Pm n g) (hs : ∀ j, j < s0.length → 0 ≤ s0.getD j 0 ∧ s0.getD j 0 < n) : ∀ k, (∀ j, j < k → j < (Bf.run Ls s0 j).st.length) → Bf.J n Ls s0 (Bf.run Ls s0 k)
  | 0, _ => Bf.J.start hG hs
  | k + 1, h => by
    have ih := Bf.J.run hG hs k (fun j hj => h j (by omega))
    have h1 := Bf.J.rows (fun j hj => by have := hs j hj; unfold img; omega) hG (h k (by omega)) ih Ls.length (Nat.le_refl _)
    exact ⟨h1.nd, h1.ne, h1.gen, h1.ld, h1.lp, h1.lb⟩

/-- At the state number k behind j letters, the first j of its neighbors are there, and the row tells where. -/
theorem Bf.rows_row {k : Nat} {B : Bf} (hk : k < B.st.length) : ∀ j, j ≤ Ls.length → ∀ i, i < j → comp (B.st.getD k []) (Ls.getD i (0, [])).2 ∈ (B.rows Ls k j).1.st ∧
    (B.rows Ls k j).2.getD i 0 = (((B.rows Ls k j).1.st.idxOf (comp (B.st.getD k []) (Ls.getD i (0, [])).2) : Nat) : Int)
  | 0, _, i, hi => by omega
  | j + 1, hj, i, hi => by
    have hm := Bf.rows_more (Ls := Ls) k B j (by omega)
    have hl := Bf.rows_len (Ls := Ls) k B j (by omega)
    have e0 : (B.rows Ls k j).1.st.getD k [] = B.st.getD k [] := pre_getD hm.st hk []
    rw [Bf.rows_succ k B (by omega)]
    by_cases hij : i = j
    · subst hij
      unfold Bf.meet
      rw [e0]
      split
      · rename_i h
        refine ⟨h, ?_⟩
        rw [Go.Av.getD_append, if_neg (by omega), hl, Nat.sub_self]; rfl
      · rename_i h
        refine ⟨by simp, ?_⟩
        simp only
        rw [Go.Av.getD_append, if_neg (by omega), hl, Nat.sub_self, List.idxOf_append, if_neg h]
        simp
    · obtain ⟨h1, h2⟩ := Bf.rows_row hk j (by omega) i (by omega)
      have hm2 := Bf.meet_more k (B.rows Ls k j) (Ls.getD j (0, []))
      refine ⟨hm2.st.subset h1, ?_⟩
      have e1 : (Bf.meet k (B.rows Ls k j) (Ls.getD j (0, []))).1.st.idxOf (comp (B.st.getD k []) (Ls.getD i (0, [])).2) = (B.rows Ls k j).1.st.idxOf (comp (B.st.getD k []) (Ls.getD i (0, [])).2) := by
        obtain ⟨r, hr⟩ := hm2.st
        rw [← hr, List.idxOf_append, if_pos h1]
      rw [e1, ← h2]
      unfold Bf.meet
      split <;> (simp only; rw [Go.Av.getD_append, if_pos (by omega)])

/-- The search is over. -/
def Bf.Done (Ls : List (Int × List Int)) (s0 : List Int) (k : Nat) : Prop := k = (Bf.run Ls s0 k).st.length ∧ ∀ j, j < k → j < (Bf.run Ls s0 j).st.length

theorem Bf.Done.closed {k : Nat} (h : Bf.Done Ls s0 k) {s : List Int} (hs : s ∈ (Bf.run Ls s0 k).st) {l : Int × List Int} (hl : l ∈ Ls) : comp s l.2 ∈ (Bf.run Ls s0 k).st := by
  obtain ⟨i, hi, e⟩ := List.getElem_of_mem hs
  have hik : i < k := by rw [h.1]; exact hi
  have hi' := h.2 i hik
  have hm := Bf.run_more (Ls := Ls) (s0 := s0) (show i ≤ k by omega)
  have e1 : (Bf.run Ls s0 i).st.getD i [] = s := by
    rw [← pre_getD hm.st hi' [], List.getD_eq_getElem?_getD, List.getElem?_eq_getElem hi]; exact e
  obtain ⟨j, hj, ej⟩ := List.getElem_of_mem hl
  have h1 := (Bf.rows_row (Ls := Ls) hi' Ls.length (Nat.le_refl _) j hj).1
  rw [e1, List.getD_eq_getElem?_getD, List.getElem?_eq_getElem hj, Option.getD_some, ej] at h1
  have hm2 := Bf.run_more (Ls := Ls) (s0 := s0) (show i + 1 ≤ k by omega)
  exact hm2.st.subset h1

theorem Bf.Done.mem (hG : ∀ g ∈ Ls.map (·.2), Pm n g) (hs : ∀ j, j < s0.length → 0 ≤ s0.getD j 0 ∧ s0.getD j 0 < n) {k : Nat} (h : Bf.Done Ls s0 k) (s : List Int) : s ∈ (Bf.run Ls s0 k).st ↔ ∃ g, Gen n (Ls.map (·.2)) g ∧ s = comp s0 g := by
  constructor
  · exact (Bf.J.run hG hs k h.2).gen s
  · rintro ⟨g, hg, rfl⟩
    induction hg with
    | one =>
      have h1 := (Bf.J.run hG hs k h.2).ne
      have : comp s0 (idn n) = s0 := by
        refine ext (by simp [comp]) fun j hj => ?_
        rw [comp_length] at hj
        rw [comp_get _ _ hj]
        have := hs j hj
        rw [idn_get (by unfold img; omega)]
        unfold img; omega
      rw [this]
      have h2 := mem_getD_of_lt (l := (Bf.run Ls s0 k).st) [] h1.2
      rwa [h1.1] at h2
    | @mul p g hp hg ih =>
      obtain ⟨l, hl, rfl⟩ := List.mem_map.1 hg
      rw [← comp_assoc (fun j hj => by have := hs j hj; unfold img; omega) (hp.pm hG)]
      exact h.closed ih hl

end
end Go.Pm
end
