import Derived.Test.YtdllbnchcjgcdaaI7
import Derived.Test.YtdllbnchcjgcdaaI3
/- The program explores a puzzle. -/
section
namespace Go.Proofs.Ytdllbnchcjgcdaa
open Go.Av
set_option linter.unusedSimpArgs false
set_option linter.unusedVariables false
attribute [local irreducible] AWP CallG Ob Br BrP Go.Av.Sub endQ AOps OpV AC thenA blkA opsVC opVC withA withArgs opsQ opQ CallQ withA2 withArgs2
open Go.Pm (Pm comp invp idn img Gen Bf srch sorts srtN Srt slot sidx insAt)

/- how many states: the group of the letters -/
theorem lets_mem : ∀ (m : Nat) (j : Nat), j < m → ((j : Int) + 1) ∈ lets m
  | 0, j, h => absurd h (Nat.not_lt_zero _)
  | m + 1, j, h => by
    unfold lets
    by_cases e : j = m
    · subst e; simp
    · exact List.mem_append_left _ (lets_mem m j (by omega))
theorem lsP_gen {p : Pz} (hz : isPz p) (g : List Int) : Go.Pm.Gen p.n.toNat ((lsP p).map (·.2)) g ↔ Go.Pm.Gen p.n.toNat p.m g := by
  have hg : ∀ i, i < p.m.length → Pm p.n.toNat (p.m.getD i []) := hz.gens.2.2
  have hpm : ∀ g ∈ p.m, Pm p.n.toNat g := fun g hm => by
    obtain ⟨j, hj, rfl⟩ := List.mem_iff_getElem.1 hm
    have := hg j hj
    rwa [List.getD_eq_getElem?_getD, List.getElem?_eq_getElem hj] at this
  have mem : ∀ i, i < p.m.length → p.m.getD i [] ∈ p.m := fun i hi => by
    rw [List.getD_eq_getElem?_getD, List.getElem?_eq_getElem hi]; exact List.getElem_mem hi
  constructor
  · intro h
    refine Go.Pm.Gen.sub hpm (fun x hx => ?_) h
    simp only [lsP, List.map_map, List.mem_map, Function.comp] at hx
    obtain ⟨l, hl, rfl⟩ := hx
    obtain ⟨j, hj, rfl⟩ := List.getElem_of_mem hl
    have hin := lets_inL p.m j hj
    rw [List.getD_eq_getElem?_getD, List.getElem?_eq_getElem hj] at hin
    simp only [Option.getD_some] at hin
    unfold inL at hin
    unfold letP
    split
    · exact Go.Pm.Gen.of hpm (mem _ (by omega))
    · exact Go.Pm.Gen.inv hpm (Go.Pm.Gen.of hpm (mem _ (by omega)))
  · intro h
    refine Go.Pm.Gen.mono (fun x hx => ?_) h
    obtain ⟨j, hj, rfl⟩ := List.mem_iff_getElem.1 hx
    simp only [lsP, List.map_map, List.mem_map, Function.comp]
    refine ⟨(j : Int) + 1, lets_mem _ j hj, ?_⟩
    unfold letP
    rw [if_pos (by omega), show ((j : Int) + 1 - 1).toNat = j by omega, List.getD_eq_getElem?_getD, List.getElem?_eq_getElem hj]; rfl
theorem cnt_list {p : Pz} (hz : isPz p) : ∃ L : List (List Int), L.Nodup ∧ L.length = cntP p ∧ ∀ g, g ∈ L ↔ Go.Pm.Gen p.n.toNat ((lsP p).map (·.2)) g := by
  have hg : ∀ i, i < p.m.length → Pm p.n.toNat (p.m.getD i []) := hz.gens.2.2
  have hpm : ∀ g ∈ p.m, Pm p.n.toNat g := fun g hm => by
    obtain ⟨j, hj, rfl⟩ := List.mem_iff_getElem.1 hm
    have := hg j hj
    rwa [List.getD_eq_getElem?_getD, List.getElem?_eq_getElem hj] at this
  obtain ⟨L, h1, h2, h3⟩ := Go.Pm.ordG_list hpm
  exact ⟨L, h1, by unfold cntP; rw [if_pos hz]; exact h2, fun g => (h3 g).trans (lsP_gen hz g).symm⟩
theorem cnt_some {p : Pz} (h : 1 ≤ ((cntP p : Nat) : Int) ∧ ((cntP p : Nat) : Int) ≤ 3000) : isPz p := by
  by_cases e : isPz p
  · exact e
  · unfold cntP at h; rw [if_neg e] at h; omega
theorem cnt_none {p : Pz} (h : ¬ (1 ≤ ((cntP p : Nat) : Int) ∧ ((cntP p : Nat) : Int) ≤ 3000)) : XS p = none := by
  by_cases e : isPz p
  · obtain ⟨L, h1, h2, h3⟩ := cnt_list e
    have hpos : 0 < L.length := List.length_pos_of_mem ((h3 _).2 .one)
    rw [XS_yes e]
    exact (Go.Pm.srch_group (lsP_pm e) h1 h3).2 (by omega)
  · exact XS_no e

/- keys of states, and where they stand -/
theorem ba_beq {a b : ByteArray} : (a == b) = true ↔ a = b := by
  obtain ⟨x⟩ := a; obtain ⟨y⟩ := b
  show (x == y) = true ↔ _
  rw [beq_iff_eq, ByteArray.mk.injEq]
def kvsN : List (List Int) → Nat → List (ByteArray × Int)
  | [], _ => []
  | s :: r, k => (keyB s, (k : Int)) :: kvsN r (k + 1)
theorem kvsN_snoc (y : List Int) : ∀ (xs : List (List Int)) (k : Nat), kvsN (xs ++ [y]) k = kvsN xs k ++ [(keyB y, ((k + xs.length : Nat) : Int))]
  | [], k => by simp [kvsN]
  | s :: r, k => by
    simp only [List.cons_append, kvsN, kvsN_snoc y r (k + 1), List.length_cons]
    rw [show k + 1 + r.length = k + (r.length + 1) by omega]
def kvs (xs : List (List Int)) : List (ByteArray × Int) := kvsN xs 0
theorem kvs_snoc (xs : List (List Int)) (y : List Int) : kvs xs ++ [(keyB y, (xs.length : Int))] = kvs (xs ++ [y]) := by
  unfold kvs; rw [kvsN_snoc, Nat.zero_add]
theorem lk_kvsN {y : List Int} (hy : isB y) : ∀ (xs : List (List Int)) (k : Nat), (∀ s ∈ xs, isB s) → lkO (keyB y) (kvsN xs k) = if y ∈ xs then some ((k + xs.idxOf y : Nat) : Int) else none
  | [], k, _ => by simp [kvsN, lkO]
  | s :: r, k, h => by
    have ih := lk_kvsN hy r (k + 1) (fun x hx => h x (List.mem_cons_of_mem _ hx))
    simp only [kvsN, lkO, ih]
    by_cases e : s = y
    · subst e
      rw [ba_beq.2 rfl]; simp
    · have e2 : (keyB y == keyB s) = false := by
        rw [Bool.eq_false_iff]
        exact fun k => e (keyB_inj (h s List.mem_cons_self) hy (ba_beq.1 k).symm)
      have e3 : (s == y) = false := beq_eq_false_iff_ne.2 e
      rw [e2]
      have e5 : y ∈ s :: r ↔ y ∈ r := by simp [Ne.symm e]
      simp only [cond_false, List.idxOf_cons, e3]
      by_cases m : y ∈ r
      · rw [if_pos m, if_pos (e5.2 m)]
        simp only [Option.some.injEq]; omega
      · rw [if_neg m, if_neg (fun k => m (e5.1 k))]
theorem lk_has {y : List Int} {xs : List (List Int)} (hy : isB y) (h : ∀ s ∈ xs, isB s) : (lkO (keyB y) (kvs xs)).isSome = decide (y ∈ xs) := by
  unfold kvs; rw [lk_kvsN hy xs 0 h]
  split <;> simp [*]
theorem lk_get {y : List Int} {xs : List (List Int)} (hy : isB y) (h : ∀ s ∈ xs, isB s) (hm : y ∈ xs) : (lkO (keyB y) (kvs xs)).getD 0 = ((xs.idxOf y : Nat) : Int) := by
  unfold kvs; rw [lk_kvsN hy xs 0 h, if_pos hm, Nat.zero_add]; rfl

theorem isB_of {n : Nat} {s : List Int} (hn : n ≤ 20) (h : ∀ j, j < s.length → 0 ≤ s.getD j 0 ∧ s.getD j 0 < n) : isB s := fun j hj => by have := h j hj; omega
theorem isSt_J {p : Pz} (hp : isPz p) {X : Bf} (hJ : Bf.J p.n.toNat (lsP p) (idn p.n.toNat) X) {s : List Int} (hs : s ∈ X.st) : isSt p s := by
  obtain ⟨g, hg, rfl⟩ := hJ.gen s hs
  have h1 := (Go.Pm.Pm.idn _).comp (hg.pm (lsP_pm hp))
  have hn := hp.n
  refine ⟨hp, by rw [h1.1]; omega, (isPerm_pm _).2 ⟨by rw [h1.1]; omega, by rw [h1.1]; exact h1⟩⟩
end Go.Proofs.Ytdllbnchcjgcdaa
end
/- What the program asks of an exploration: depths, places of states. -/
section
namespace Go.Proofs.Ytdllbnchcjgcdaa
open Go.Av
set_option linter.unusedSimpArgs false
set_option linter.unusedVariables false
attribute [local irreducible] AWP CallG Ob Br BrP Go.Av.Sub endQ AOps OpV AC thenA blkA opsVC opVC withA withArgs opsQ opQ CallQ withA2 withArgs2
open Go.Pm (Pm comp invp idn img Gen Bf srch sorts srtN Srt slot sidx insAt)
section
variable {P : Program} {N : Cx} {A : Fr} {H : Hp}
end
section
variable {P : Program} {N : Cx} {A : Fr} {H : Hp}
end
end Go.Proofs.Ytdllbnchcjgcdaa
end
