import Derived.Test.YticbabpajligbaaDoorI17
import Derived.Test.YticbabpajligbaaDoorI2
import Derived.Test.YticbabpajligbaaDoorI16
section
namespace Go.Proofs.YticbabpajligbaaDoor
open Go.Av
set_option linter.unusedSimpArgs false
set_option linter.unusedVariables false
attribute [local irreducible] AWP CallG Ob Br BrP Go.Av.Sub endQ AOps OpV AC thenA blkA opsVC opVC withA withArgs opsQ opQ CallQ withA2 withArgs2
open Go.Pm (Pm comp invp idn img)

theorem isPerm_pm (p : List Int) : isPerm p ↔ (1 ≤ p.length ∧ p.length ≤ 20) ∧ Pm p.length p := by
  unfold isPerm
  refine and_congr_right fun h1 => ?_
  constructor
  · intro h
    refine ⟨rfl, fun j hj => by have := (h j hj).1; omega, fun i j hi hj e => ?_⟩
    have key : ∀ i j, i < j → j < p.length → p.getD i 0 ≠ p.getD j 0 := fun i j hij hj e => by
      refine (h j hj).2 (mem_getD.2 ⟨i, by simp; omega, ?_⟩)
      rw [← e]
      simp [List.getD_eq_getElem?_getD, List.getElem?_take, hij]
    rcases Nat.lt_trichotomy i j with hl | he | hl
    · exact absurd e (key i j hl hj)
    · exact he
    · exact absurd e.symm (key j i hl hi)
  · rintro ⟨_, h2, h3⟩ j hj
    refine ⟨by have := h2 j hj; omega, fun hm => ?_⟩
    obtain ⟨i, hi, e⟩ := mem_getD.1 hm
    simp only [List.length_take] at hi
    have e' : p.getD i 0 = p.getD j 0 := by
      rw [← e]
      simp [List.getD_eq_getElem?_getD, List.getElem?_take, show i < j by omega]
    have := h3 i j (by omega) hj e'
    omega

/-- The generators are permutations of n points. -/
def gensP (n : Nat) (g : List (List Int)) : Prop := g.length ≤ 1048576 ∧ n ≤ 20 ∧ ∀ j, j < g.length → Pm n (g.getD j [])
theorem gensP.of {n : Int} {g : List (List Int)} (h : isGens n g) : gensP n.toNat g := by
  refine ⟨by have := h.2.1; omega, by have := h.1; omega, fun j hj => ?_⟩
  obtain ⟨h1, h2⟩ := h.2.2 j hj
  have := ((isPerm_pm _).1 h2).2
  rwa [show (g.getD j []).length = n.toNat by omega] at this
def inL (g : List (List Int)) (l : Int) : Prop := l ≠ 0 ∧ -(g.length : Int) ≤ l ∧ l ≤ g.length
def wordP (g : List (List Int)) (w : List Int) : Prop := ∀ j, j < w.length → inL g (w.getD j 0)
theorem wordP.of {g : List (List Int)} {w : List Int} (h : isW g.length w) : wordP g w := fun j hj => by
  have := h.2 j hj
  unfold isL at this; unfold inL; omega
end Go.Proofs.YticbabpajligbaaDoor
end
/- The laws' dice: how they are made; words of dice; whether codes are big, rows alike. -/
section
namespace Go.Proofs.YticbabpajligbaaDoor
open Go.Av
set_option linter.unusedSimpArgs false
set_option linter.unusedVariables false
attribute [local irreducible] AWP CallG Ob Br BrP Go.Av.Sub endQ AOps OpV AC thenA blkA opsVC opVC withA withArgs opsQ opQ CallQ withA2 withArgs2
open Go.Pm (Pm comp invp idn img)
end Go.Proofs.YticbabpajligbaaDoor
end
