import Derived.Test.YtngpacdhpblpbaaE16
import Derived.Test.YtngpacdhpblpbaaE11
import Derived.Test.YtngpacdhpblpbaaE14
/- Block systems, the program: the finest block system with two points in one block. -/
section
namespace Go.Proofs.Ytngpacdhpblpbaa
open Go.Av
set_option linter.unusedSimpArgs false
set_option linter.unusedVariables false
attribute [local irreducible] AWP CallG Ob Br BrP Go.Av.Sub endQ AOps OpV AC thenA blkA opsVC opVC withA withArgs opsQ opQ CallQ withA2 withArgs2
open Go.Pm (Pm ptI partI IsPart ixP Rsp rspI actP img invp mrg Lbl SL SB parts loR clsF clsN partK Cg MB Snd cntL idn Rep)
section
variable {n k z : Nat} {gs : List (List Int)} {L L0 : List Int} {B : Nat → Nat → Prop} {Q Q' : List Int → Prop} {ch : Bool}
end
end Go.Proofs.Ytngpacdhpblpbaa
end
/- Block systems, the program: the join of two partitions. -/
section
namespace Go.Proofs.Ytngpacdhpblpbaa
open Go.Av
set_option linter.unusedSimpArgs false
set_option linter.unusedVariables false
attribute [local irreducible] AWP CallG Ob Br BrP Go.Av.Sub endQ AOps OpV AC thenA blkA opsVC opVC withA withArgs opsQ opQ CallQ withA2 withArgs2
open Go.Pm (Pm ptI partI IsPart ixP Rsp rspI actP img invp mrg Lbl SL SB parts loR clsF clsN partK Cg MB Snd cntL idn Rep)
/-- A row of rows of rows. -/
@[go_sem] def i3 (ws : List (List (List Int))) : AV := .list false 1 ws.length (cM intss [] ws)
@[go_sem] theorem cM_intss (ws : List (List (List Int))) (i : Nat) : cM intss [] ws i = .list false 1 (ws.getD i []).length (cM ints [] (ws.getD i [])) := rfl
section
variable {n i k : Nat} {a b : List (List Int)} {L : List Int}
end
end Go.Proofs.Ytngpacdhpblpbaa
end
/- Block systems: what is drawn. -/
section
namespace Go.Proofs.Ytngpacdhpblpbaa
open Go.Av
set_option linter.unusedSimpArgs false
set_option linter.unusedVariables false
attribute [local irreducible] AWP CallG Ob Br BrP Go.Av.Sub endQ AOps OpV AC thenA blkA opsVC opVC withA withArgs opsQ opQ CallQ withA2 withArgs2
open Go.Pm (Pm ptI partI IsPart ixP Rsp rspI actP img invp mrg Lbl SL SB parts loR clsF clsN partK Cg MB Snd cntL idn Rep)
theorem callPD {P : Program} {N : Cx} {H : Hp} {f : FuncId} {args : List AV} {k : IntKind} {d : Dc} {Q : AV → Prop} {K : AV → (Nat → Bool) → Hp → Prop} (hH : H 1000000 = some (.cells 3 (dF k d))) (hac : AC P f args (DH k d) pM (postD k Q)) (hQ : ∀ r, Q r → ∀ p, r.scrub p = r)
    (hK : ∀ r d', Q r → K r (fun _ => false) (H.upd 1000000 (.cells 3 (dF k d')))) : CallPP P N f args H K :=
  ⟨fun _ => false, fun B => callD hH hac hQ fun r d' hq => ⟨(Fr.scrub_none B).symm, hK r d' hq⟩⟩
end Go.Proofs.Ytngpacdhpblpbaa
end
