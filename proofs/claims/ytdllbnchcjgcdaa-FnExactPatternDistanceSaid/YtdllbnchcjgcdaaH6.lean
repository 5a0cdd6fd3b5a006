import Derived.Test.YtdllbnchcjgcdaaH5
import Derived.Test.YtdllbnchcjgcdaaH2
import Derived.Test.YtdllbnchcjgcdaaH3
/- Stabilizer chains: how they lie, and what sifting returns. -/
section
namespace Go.Proofs.Ytdllbnchcjgcdaa
open Go.Av
set_option linter.unusedSimpArgs false
set_option linter.unusedVariables false
attribute [local irreducible] AWP CallG Ob Br BrP Go.Av.Sub endQ AOps OpV AC thenA blkA opsVC opVC withA withArgs opsQ opQ CallQ withA2 withArgs2
open Go.Pm (Pm comp invp idn img Ch)

end Go.Proofs.Ytdllbnchcjgcdaa
end
/- Stabilizer chains of our own: how they lie in memory. -/
section
namespace Go.Proofs.Ytdllbnchcjgcdaa
open Go.Av
set_option linter.unusedVariables false
set_option linter.unusedSimpArgs false
open Go.Pm (Pm comp invp idn img Ch)

section
variable {F : Nat → AV} {n : Nat} {C C' : Ch} {R : Hp}
end
section
variable {P : Program} {N : Cx} {A : Fr} {H R : Hp} {F : Nat → AV} {n l : Nat} {C : Ch}
end
end Go.Proofs.Ytdllbnchcjgcdaa
end
/- The program extends a chain. -/
section
namespace Go.Proofs.Ytdllbnchcjgcdaa
open Go.Av
set_option linter.unusedSimpArgs false
set_option linter.unusedVariables false
attribute [local irreducible] AWP CallG Ob Br BrP Go.Av.Sub endQ AOps OpV AC thenA blkA opsVC opVC withA withArgs opsQ opQ CallQ withA2 withArgs2
open Go.Pm (Pm comp invp idn img Ch fixB Ph1 Ph2)

end Go.Proofs.Ytdllbnchcjgcdaa
end
/- A new chain, and the chain of generators: the program's. -/
section
namespace Go.Proofs.Ytdllbnchcjgcdaa
open Go.Av
set_option linter.unusedSimpArgs false
set_option linter.unusedVariables false
attribute [local irreducible] AWP CallG Ob Br BrP Go.Av.Sub endQ AOps OpV AC thenA blkA opsVC opVC withA withArgs opsQ opQ CallQ withA2 withArgs2
open Go.Pm (Pm comp invp idn img Ch fixB)

/-- The chain of no generators. -/
def C0 (n : Nat) : Ch := ⟨fun _ => [], fun i y => if y = i then some (idn n) else none⟩
section
variable {F : Nat → AV} {n j k : Nat} {C : Ch} {R : Hp}
end

/-- What a chain of generators is. -/
def Of (n : Nat) (gs : List (List Int)) (C : Ch) : Prop := C.WF n ∧ C.Full n 0 ∧ ∀ g, Go.Pm.Gen n gs g ↔ Go.Pm.Gen n (C.S 0) g
end Go.Proofs.Ytdllbnchcjgcdaa
end
/- The reference extends a chain. -/
section
namespace Go.Proofs.Ytdllbnchcjgcdaa
open Go.Av
set_option linter.unusedSimpArgs false
set_option linter.unusedVariables false
attribute [local irreducible] AWP CallG Ob Br BrP Go.Av.Sub endQ AOps OpV AC thenA blkA opsVC opVC withA withArgs opsQ opQ CallQ withA2 withArgs2
open Go.Pm (Pm comp invp idn img Ch fixB Spc Run Gen)

end Go.Proofs.Ytdllbnchcjgcdaa
end
/- A new chain, and the chain of generators: the reference's. -/
section
namespace Go.Proofs.Ytdllbnchcjgcdaa
open Go.Av
set_option linter.unusedSimpArgs false
set_option linter.unusedVariables false
attribute [local irreducible] AWP CallG Ob Br BrP Go.Av.Sub endQ AOps OpV AC thenA blkA opsVC opVC withA withArgs opsQ opQ CallQ withA2 withArgs2
open Go.Pm (Pm comp invp idn img Ch fixB)

section
variable {F : Nat → AV} {n j k : Nat} {C : Ch} {R : Hp}
end

end Go.Proofs.Ytdllbnchcjgcdaa
end
/- IsReachable: both texts ask whether the state lies in the group of the moves. -/
section
namespace Go.Proofs.Ytdllbnchcjgcdaa
open Go.Av
set_option linter.unusedSimpArgs false
set_option linter.unusedVariables false
attribute [local irreducible] AWP CallG Ob Br BrP Go.Av.Sub endQ AOps OpV AC thenA blkA opsVC opVC withA withArgs opsQ opQ CallQ withA2 withArgs2
open Go.Pm (Pm comp invp idn img Ch fixB)

end Go.Proofs.Ytdllbnchcjgcdaa
end
/- StateCount: both texts multiply the sizes of the orbits. -/
section
namespace Go.Proofs.Ytdllbnchcjgcdaa
open Go.Av
set_option linter.unusedSimpArgs false
set_option linter.unusedVariables false
attribute [local irreducible] AWP CallG Ob Br BrP Go.Av.Sub endQ AOps OpV AC thenA blkA opsVC opVC withA withArgs opsQ opQ CallQ withA2 withArgs2
open Go.Pm (Pm comp invp idn img Ch fixB fact)

end Go.Proofs.Ytdllbnchcjgcdaa
end
