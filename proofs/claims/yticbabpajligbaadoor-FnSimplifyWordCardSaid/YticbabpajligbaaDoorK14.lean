import Derived.Test.YticbabpajligbaaDoorK15
import Derived.Test.YticbabpajligbaaDoorK13
import Derived.Test.YticbabpajligbaaDoorK12
/- The texts of nodes, by the reference. -/
section
namespace Go.Proofs.YticbabpajligbaaDoor
open Go.Av
set_option linter.unusedSimpArgs false
set_option linter.unusedVariables false
attribute [local irreducible] AWP CallG Ob Br BrP Go.Av.Sub endQ AOps OpV AC thenA blkA opsVC opVC withA withArgs opsQ opQ CallQ withA2 withArgs2
open Go.Nt (Nd nd0 kd ndOk sz isNt jnS jn sumS inT ndT tx kdT)
/-- What a valid tree is, for texts. -/
structure NtOk (names : ByteArray) (xs : List Nd) : Prop where
  v : isNt names.size xs
theorem NtOk.mv {names : ByteArray} {xs : List Nd} (h : NtOk names xs) : ∀ i, i < xs.length → 0 ≤ (xs.getD i nd0).move := fun i hi => by
  have := h.v.2.2.1 i hi
  rcases this.2.2 with ⟨_, _, _, _, h2, _⟩ | ⟨_, h2 | h2 | h2⟩ <;> omega
abbrev TX (names : ByteArray) (xs : List Nd) (c : Int) : ByteArray := tx fmS names xs c.toNat
theorem NtOk.sum {names : ByteArray} {xs : List Nd} (h : NtOk names xs) {i : Nat} (hi : i < xs.length) : sumS ((kd xs i).map (TX names xs)) ≤ 1800 := Go.Nt.kdT_sum fmS_le h.v.2.2.2 h.v.2.1.2 h.mv i hi
end Go.Proofs.YticbabpajligbaaDoor
end
/- The texts of nodes, by the program. -/
section
namespace Go.Proofs.YticbabpajligbaaDoor
open Go.Av
set_option linter.unusedSimpArgs false
set_option linter.unusedVariables false
attribute [local irreducible] AWP CallG Ob Br BrP Go.Av.Sub endQ AOps OpV AC thenA blkA opsVC opVC withA withArgs opsQ opQ CallQ withA2 withArgs2
open Go.Nt (Nd nd0 kd ndOk sz isNt jnS jn sumS inT ndT tx kdT)
end Go.Proofs.YticbabpajligbaaDoor
end
/- FormatNotation, by both texts. -/
section
namespace Go.Proofs.YticbabpajligbaaDoor
open Go.Av
set_option linter.unusedSimpArgs false
set_option linter.unusedVariables false
attribute [local irreducible] AWP CallG Ob Br BrP Go.Av.Sub endQ AOps OpV AC thenA blkA opsVC opVC withA withArgs opsQ opQ CallQ withA2 withArgs2
open Go.Nt (Nd nd0 kd ndOk sz isNt jnS jn sumS inT ndT tx kdT)
end Go.Proofs.YticbabpajligbaaDoor
end
