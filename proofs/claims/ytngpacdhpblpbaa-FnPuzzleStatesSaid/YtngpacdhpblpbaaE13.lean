import Derived.Test.YtngpacdhpblpbaaE12
import Derived.Test.YtngpacdhpblpbaaE3
/- Words to the points of an orbit: the walk. -/
section
namespace Go.Proofs.Ytngpacdhpblpbaa
open Go.Av
set_option linter.unusedSimpArgs false
set_option linter.unusedVariables false
attribute [local irreducible] AWP CallG Ob Br BrP Go.Av.Sub endQ AOps OpV AC thenA blkA opsVC opVC withA withArgs opsQ opQ CallQ withA2 withArgs2
open Go.Pm (Pm Rch img comp invp)
end Go.Proofs.Ytngpacdhpblpbaa
end
/- An orbit, all orbits: the program. -/
section
namespace Go.Proofs.Ytngpacdhpblpbaa
open Go.Av
set_option linter.unusedSimpArgs false
set_option linter.unusedVariables false
attribute [local irreducible] AWP CallG Ob Br BrP Go.Av.Sub endQ AOps OpV AC thenA blkA opsVC opVC withA withArgs opsQ opQ CallQ withA2 withArgs2
open Go.Pm (Pm Rch img comp invp orbF clsF clsN partK loR)
end Go.Proofs.Ytngpacdhpblpbaa
end
/- All orbits: the program. -/
section
namespace Go.Proofs.Ytngpacdhpblpbaa
open Go.Av
set_option linter.unusedSimpArgs false
set_option linter.unusedVariables false
attribute [local irreducible] AWP CallG Ob Br BrP Go.Av.Sub endQ AOps OpV AC thenA blkA opsVC opVC withA withArgs opsQ opQ CallQ withA2 withArgs2
open Go.Pm (Pm Rch img comp invp orbF clsF clsN partK loR)
def Sn (n : Nat) (sn : List Bool) (p : Nat → Prop) : Prop := sn.length = n ∧ ∀ y, y < n → (sn.getD y false = true ↔ p y)
theorem Sn.set {n w : Nat} {sn : List Bool} {p : Nat → Prop} (h : Sn n sn p) (hw : w < n) : Sn n (sn.set w true) (fun y => p y ∨ y = w) := by
  have hl : w < sn.length := by rw [h.1]; exact hw
  refine ⟨by rw [List.length_set]; exact h.1, fun y hy => ?_⟩
  rw [getD_set hl]
  split
  · rename_i e; simp [e]
  · rename_i e
    rw [h.2 y hy]
    exact ⟨.inl, fun k => k.elim id fun k => absurd k e⟩
theorem Sn.imp {n : Nat} {sn : List Bool} {p q : Nat → Prop} (h : Sn n sn p) (k : ∀ y, y < n → (p y ↔ q y)) : Sn n sn q := ⟨h.1, fun y hy => (h.2 y hy).trans (k y hy)⟩
end Go.Proofs.Ytngpacdhpblpbaa
end
