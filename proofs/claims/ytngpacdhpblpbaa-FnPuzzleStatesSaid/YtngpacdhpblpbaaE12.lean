import Derived.Test.YtngpacdhpblpbaaE11
import Derived.Test.YtngpacdhpblpbaaE5
import Derived.Test.YtngpacdhpblpbaaE3
/- Orbits, the reference. -/
section
namespace Go.Proofs.Ytngpacdhpblpbaa
open Go.Av
set_option linter.unusedSimpArgs false
set_option linter.unusedVariables false
attribute [local irreducible] AWP CallG Ob Br BrP Go.Av.Sub endQ AOps OpV AC thenA blkA opsVC opVC withA withArgs opsQ opQ CallQ withA2 withArgs2
open Go.Pm (Pm rowO runO JO sortS insS orbF clsF partK Rch)
end Go.Proofs.Ytngpacdhpblpbaa
end
/- All orbits, the reference. -/
section
namespace Go.Proofs.Ytngpacdhpblpbaa
open Go.Av
set_option linter.unusedSimpArgs false
set_option linter.unusedVariables false
attribute [local irreducible] AWP CallG Ob Br BrP Go.Av.Sub endQ AOps OpV AC thenA blkA opsVC opVC withA withArgs opsQ opQ CallQ withA2 withArgs2
open Go.Pm (Pm rowO runO JO sortS insS orbF clsF partK Rch loR)
theorem flat_len (n : Nat) (R : Nat → Nat → Prop) (k : Nat) : (partK n R k).flatten.length ≤ k * n := by
  induction k with
  | zero => simp [partK]
  | succ k ih =>
    rw [Go.Pm.partK_succ, Nat.succ_mul]
    split
    · rw [List.flatten_append, List.length_append]
      have := Go.Pm.clsF_len (n := n) (R := R) (x := k)
      simp only [List.flatten_cons, List.flatten_nil, List.append_nil]; omega
    · omega
end Go.Proofs.Ytngpacdhpblpbaa
end
/- Orbits, an orbit, fixed points: the reference. -/
section
namespace Go.Proofs.Ytngpacdhpblpbaa
open Go.Av
set_option linter.unusedSimpArgs false
set_option linter.unusedVariables false
attribute [local irreducible] AWP CallG Ob Br BrP Go.Av.Sub endQ AOps OpV AC thenA blkA opsVC opVC withA withArgs opsQ opQ CallQ withA2 withArgs2
open Go.Pm (Pm rowO runO JO sortS insS orbF clsF partK Rch loR)
theorem gens_pm {n : Int} {gs : List (List Int)} (h : isGens n gs) : (∀ g ∈ gs, Pm n.toNat g) ∧ 1 ≤ n ∧ n ≤ 20 := by
  refine ⟨fun g hm => ?_, by have := h.1; omega⟩
  obtain ⟨j, hj, rfl⟩ := List.getElem_of_mem hm
  have := (gensP.of h).2.2 j hj
  rwa [List.getD_eq_getElem?_getD, List.getElem?_eq_getElem hj] at this
end Go.Proofs.Ytngpacdhpblpbaa
end
/- Words to the points of an orbit: what the search keeps; plain. -/
section
namespace Go.Proofs.Ytngpacdhpblpbaa
open Go.Av
set_option linter.unusedSimpArgs false
set_option linter.unusedVariables false
attribute [local irreducible] AWP CallG Ob Br BrP Go.Av.Sub endQ AOps OpV AC thenA blkA opsVC opVC withA withArgs opsQ opQ CallQ withA2 withArgs2
open Go.Pm (Pm Rch img comp invp)
theorem letsW_mem : ∀ (m : Nat) (j : Nat), j < m → ((j : Int) + 1) ∈ lets m
  | 0, j, h => absurd h (Nat.not_lt_zero _)
  | m + 1, j, h => by
    unfold lets
    by_cases e : j = m
    · subst e; simp
    · exact List.mem_append_left _ (letsW_mem m j (by omega))
/-- How many points have no word. -/
def nnW (ws : List (Option (List Int))) : Nat := ws.countP Option.isNone
theorem nnW_set {ws : List (Option (List Int))} {t : Nat} {w : List Int} (ht : t < ws.length) (h : ws.getD t none = none) : nnW (ws.set t (some w)) + 1 = nnW ws := by
  have e : ws[t] = none := by rw [List.getD_eq_getElem?_getD, List.getElem?_eq_getElem ht] at h; exact h
  have hp : 0 < ws.countP Option.isNone := List.countP_pos_iff.2 ⟨ws[t], List.getElem_mem ht, by rw [e]; rfl⟩
  unfold nnW
  rw [List.countP_set ht, e]
  simp only [Option.isNone_none, Option.isNone_some, if_true, if_false, Bool.false_eq_true]
  omega
theorem getD_set {α : Type} {ws : List α} {d : α} {t y : Nat} {a : α} (ht : t < ws.length) : (ws.set t a).getD y d = if y = t then a else ws.getD y d := by
  rw [List.getD_eq_getElem?_getD, List.getElem?_set, List.getD_eq_getElem?_getD]
  by_cases h : t = y
  · rw [if_pos h, if_pos h.symm, if_pos (h ▸ ht)]; rfl
  · rw [if_neg h, if_neg (Ne.symm h)]
structure WI (n : Nat) (gs : List (List Int)) (x : Nat) (ws : List (Option (List Int))) : Prop where
  len : ws.length = n
  x0 : ws.getD x none ≠ none
  wd : ∀ y w, ws.getD y none = some w → y < n ∧ Rch gs x y ∧ (∀ l ∈ w, inL gs l) ∧ img (evalP n gs w) x = y ∧ w.length + nnW ws ≤ n
structure WQ (n : Nat) (gs : List (List Int)) (x : Nat) (ws : List (Option (List Int))) (q : List Int) : Prop extends WI n gs x ws where
  qi : ∀ v ∈ q, ∃ y : Nat, v = (y : Int) ∧ ws.getD y none ≠ none
  ql : q.length + nnW ws ≤ n
  cl : ∀ y, ws.getD y none ≠ none → (y : Int) ∈ q ∨ ∀ j, j < (lets gs.length).length → ws.getD (img (letP gs ((lets gs.length).getD j 0)) y) none ≠ none
section
variable {n x : Nat} {gs : List (List Int)} {ws : List (Option (List Int))} {q : List Int}
theorem WI.get (h : WI n gs x ws) {y : Nat} (hy : ws.getD y none ≠ none) : ∃ w, ws.getD y none = some w := by
  cases e : ws.getD y none with
  | none => exact absurd e hy
  | some w => exact ⟨w, rfl⟩
theorem rch_let (hg : gensP n gs) {y : Nat} {l : Int} (hl : inL gs l) (hy : y < n) (h : Rch gs x y) : Rch gs x (img (letP gs l) y) := by
  have hm : ∀ i, i < gs.length → gs.getD i [] ∈ gs := fun i hi => by rw [List.getD_eq_getElem?_getD, List.getElem?_eq_getElem hi]; exact List.getElem_mem hi
  have hga : ∀ g ∈ gs, Pm n g := fun g hm => by
    obtain ⟨j, hj, rfl⟩ := List.getElem_of_mem hm
    have := hg.2.2 j hj
    rwa [List.getD_eq_getElem?_getD, List.getElem?_eq_getElem hj] at this
  obtain ⟨h1, h2, h3⟩ := hl
  unfold letP
  split
  · exact .step h (hm _ (by omega))
  · exact Rch.inv hga hy (hm _ (by omega)) h
theorem WQ.step (hg : gensP n gs) (hx : x < n) (h : WQ n gs x ws q) {y : Nat} {w : List Int} {l : Int} (hw : ws.getD y none = some w) (hl : inL gs l) (hn : ws.getD (img (letP gs l) y) none = none) :
    WQ n gs x (ws.set (img (letP gs l) y) (some (w ++ [l]))) (q ++ [((img (letP gs l) y : Nat) : Int)]) := by
  obtain ⟨h1, h2, h3, h4, h5⟩ := h.wd y w hw
  have hp := letP_pm hg hl
  have ht : img (letP gs l) y < ws.length := by rw [h.len]; exact hp.img_lt h1
  have hs := nnW_set (w := w ++ [l]) ht hn
  have key : ∀ z, ws.getD z none ≠ none → (ws.set (img (letP gs l) y) (some (w ++ [l]))).getD z none ≠ none := fun z hz => by
    rw [getD_set ht]; split
    · simp
    · exact hz
  refine ⟨⟨by rw [List.length_set]; exact h.len, key x h.x0, fun z w' hz => ?_⟩, fun v hv => ?_, by have := h.ql; rw [List.length_append, List.length_singleton]; omega, fun z hz => ?_⟩
  · rw [getD_set ht] at hz
    split at hz
    · rename_i e
      simp only [Option.some.injEq] at hz
      subst hz e
      refine ⟨hp.img_lt h1, rch_let hg hl h1 h2, fun m hm => ?_, ?_, by rw [List.length_append, List.length_singleton]; omega⟩
      · rcases List.mem_append.1 hm with a | a
        · exact h3 m a
        · rw [List.mem_singleton] at a; subst a; exact hl
      · rw [evalP_app hg h3 (fun m hm => by rw [List.mem_singleton] at hm; subst hm; exact hl), evalP_one hg hl, Go.Pm.img_comp _ _ (by rw [(evalM_pm hg h3).1]; exact hx), h4]
    · obtain ⟨k1, k2, k3, k4, k5⟩ := h.wd z w' hz
      exact ⟨k1, k2, k3, k4, by omega⟩
  · rcases List.mem_append.1 hv with a | a
    · obtain ⟨z, e, hz⟩ := h.qi v a
      exact ⟨z, e, key z hz⟩
    · rw [List.mem_singleton] at a
      refine ⟨_, a, ?_⟩
      rw [getD_set ht, if_pos rfl]; simp
  · by_cases e : z = img (letP gs l) y
    · subst e; exact .inl (List.mem_append_right _ (by simp))
    · rw [getD_set ht, if_neg e] at hz
      rcases h.cl z hz with a | a
      · exact .inl (List.mem_append_left _ a)
      · exact .inr fun j hj => key _ (a j hj)
theorem WQ.pop (h : WQ n gs x ws q) {y : Nat} {r : List Int} (hq : q = (y : Int) :: r) (hd : ∀ j, j < (lets gs.length).length → ws.getD (img (letP gs ((lets gs.length).getD j 0)) y) none ≠ none) : WQ n gs x ws r := by
  subst hq
  refine ⟨h.toWI, fun v hv => h.qi v (List.mem_cons_of_mem _ hv), by have := h.ql; rw [List.length_cons] at this; omega, fun z hz => ?_⟩
  rcases h.cl z hz with a | a
  · rcases List.mem_cons.1 a with e | a
    · have : z = y := by omega
      subst this; exact .inr hd
    · exact .inl a
  · exact .inr a
/-- What the words are in the end. -/
structure WP (n : Nat) (gs : List (List Int)) (x : Nat) (ws : List (Option (List Int))) : Prop where
  len : ws.length = n
  iff : ∀ y, y < n → (ws.getD y none ≠ none ↔ Rch gs x y)
  wd : ∀ y w, ws.getD y none = some w → y < n ∧ (∀ l ∈ w, inL gs l) ∧ img (evalP n gs w) x = y ∧ w.length ≤ n
theorem WQ.last (h : WQ n gs x ws []) : WP n gs x ws := by
  refine ⟨h.len, fun y hy => ⟨fun hr => ?_, fun hr => ?_⟩, fun y w hw => ?_⟩
  · obtain ⟨w, e⟩ := h.get hr
    exact (h.wd y w e).2.1
  · clear hy
    induction hr with
    | refl => exact h.x0
    | @step y g hr hm ih =>
      obtain ⟨i, hi, rfl⟩ := List.getElem_of_mem hm
      obtain ⟨j, hj, e⟩ := List.getElem_of_mem (letsW_mem gs.length i hi)
      rcases h.cl y ih with a | a
      · cases a
      · have := a j hj
        have e2 : (lets gs.length).getD j 0 = (i : Int) + 1 := by rw [List.getD_eq_getElem?_getD, List.getElem?_eq_getElem hj]; exact e
        rw [e2] at this
        unfold letP at this
        rw [if_pos (by omega), show ((i : Int) + 1 - 1).toNat = i by omega, show gs.getD i [] = gs[i] by simp [hi]] at this
        exact this
  · obtain ⟨h1, h2, h3, h4, h5⟩ := h.wd y w hw
    exact ⟨h1, h3, h4, by omega⟩
theorem WQ.start (hx : x < n) : WQ n gs x ((List.replicate n none).set x (some [])) [(x : Int)] := by
  have hl : x < (List.replicate n (none : Option (List Int))).length := by rw [List.length_replicate]; exact hx
  have h0 : ∀ y, (List.replicate n (none : Option (List Int))).getD y none = none := fun y => by
    rw [List.getD_eq_getElem?_getD, List.getElem?_replicate]; split <;> rfl
  have hs := nnW_set (w := []) hl (h0 x)
  have hc : nnW (List.replicate n (none : Option (List Int))) = n := by unfold nnW; rw [List.countP_replicate]; simp
  refine ⟨⟨by rw [List.length_set, List.length_replicate], by rw [getD_set hl, if_pos rfl]; simp, fun y w hw => ?_⟩, fun v hv => ?_, by rw [List.length_singleton]; omega, fun y hy => ?_⟩
  · rw [getD_set hl] at hw
    split at hw
    · rename_i e; subst e
      simp only [Option.some.injEq] at hw; subst hw
      refine ⟨hx, .refl, (fun l hl => by cases hl), ?_, by rw [List.length_nil]; omega⟩
      exact Go.Pm.img_idn hx
    · rw [h0] at hw; cases hw
  · rw [List.mem_singleton] at hv
    exact ⟨x, hv, by rw [getD_set hl, if_pos rfl]; simp⟩
  · rw [getD_set hl] at hy
    split at hy
    · rename_i e; subst e; exact .inl (by simp)
    · exact absurd (h0 y) hy
end
end Go.Proofs.Ytngpacdhpblpbaa
end
