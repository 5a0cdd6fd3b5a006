import Derived.Test.YticbabpajligbaaDoorI4
import Derived.Test.YticbabpajligbaaDoorI3
/- Nodes of syntax trees: how they lie, and what both texts say of one. -/
section
namespace Go.Proofs.YticbabpajligbaaDoor
open Go.Av
set_option linter.unusedSimpArgs false
set_option linter.unusedVariables false
attribute [local irreducible] AWP CallG Ob Br BrP Go.Av.Sub endQ AOps OpV AC thenA blkA opsVC opVC withA withArgs opsQ opQ CallQ withA2 withArgs2
open Go.Nt (Nd nd0 kd ndOk sz szK)
def ndC (x : Nd) : List AV := [.v (.int .i64 (x.kind)), .v (.int .i64 (x.move)), .v (.int .i64 (x.count)), .v (.int .i64 (x.inv)), .v (.int .i64 (x.split)), .list false 1 (x.kids).length (cM iv 0 (x.kids))]
def ndF (xs : List Nd) (j : Nat) : AV := vecF (ndC (xs.getD (j / 6) nd0)) (j % 6)
/-- Six cells that hold a node. -/
structure NdF (f : Nat → AV) (x : Nd) : Prop where
  h0 : f 0 = .v (.int .i64 (x.kind))
  h1 : f 1 = .v (.int .i64 (x.move))
  h2 : f 2 = .v (.int .i64 (x.count))
  h3 : f 3 = .v (.int .i64 (x.inv))
  h4 : f 4 = .v (.int .i64 (x.split))
  h5 : f 5 = .list false 1 (x.kids).length (cM iv 0 (x.kids))
theorem NdF.of {f : Nat → AV} {x : Nd} (h : ∀ i, i < 6 → f i = vecF (ndC x) i) : NdF f x := ⟨h 0 (by decide), h 1 (by decide), h 2 (by decide), h 3 (by decide), h 4 (by decide), h 5 (by decide)⟩
end Go.Proofs.YticbabpajligbaaDoor
end
/- Rows of nodes: the laws' own functions; valid syntax trees, both texts. -/
section
namespace Go.Proofs.YticbabpajligbaaDoor
open Go.Av
set_option linter.unusedSimpArgs false
set_option linter.unusedVariables false
attribute [local irreducible] AWP CallG Ob Br BrP Go.Av.Sub endQ AOps OpV AC thenA blkA opsVC opVC withA withArgs opsQ opQ CallQ withA2 withArgs2
open Go.Nt (Nd nd0 kd ndOk sz szK isNt)
theorem vecF_scrub {l : List AV} {p : Nat → Bool} (h : ∀ a ∈ l, a.scrub p = a) (i : Nat) : (vecF l i).scrub p = vecF l i := by
  unfold vecF
  rw [List.getD_eq_getElem?_getD]
  cases e : l[i]? with
  | none => rfl
  | some a => exact h a (List.mem_of_getElem? e)
end Go.Proofs.YticbabpajligbaaDoor
end
/- Valid syntax trees: both texts. -/
section
namespace Go.Proofs.YticbabpajligbaaDoor
open Go.Av
set_option linter.unusedSimpArgs false
set_option linter.unusedVariables false
attribute [local irreducible] AWP CallG Ob Br BrP Go.Av.Sub endQ AOps OpV AC thenA blkA opsVC opVC withA withArgs opsQ opQ CallQ withA2 withArgs2
open Go.Nt (Nd nd0 kd ndOk sz szK szF isNt runF stp)
end Go.Proofs.YticbabpajligbaaDoor
end
/- Rows of nodes that come in: their sizes. -/
section
namespace Go.Proofs.YticbabpajligbaaDoor
open Go.Av
set_option linter.unusedSimpArgs false
set_option linter.unusedVariables false
attribute [local irreducible] AWP CallG Ob Br BrP Go.Av.Sub endQ AOps OpV AC thenA blkA opsVC opVC withA withArgs opsQ opQ CallQ withA2 withArgs2
open Go.Nt (Nd nd0 kd)
end Go.Proofs.YticbabpajligbaaDoor
end
/- Nodes of our own: a row of nodes whose children lie in rows of our own; their marks. -/
section
namespace Go.Proofs.YticbabpajligbaaDoor
open Go.Av
set_option linter.unusedSimpArgs false
set_option linter.unusedVariables false
attribute [local irreducible] AWP CallG Ob Br BrP Go.Av.Sub endQ AOps OpV AC thenA blkA opsVC opVC withA withArgs opsQ opQ CallQ withA2 withArgs2
open Go.Nt (Nd nd0 kd)
section
variable {P : Program} {N : Cx} {A A' : Fr} {H H' : Hp}
/-- The cells of a row of nodes, of which k are laid. -/
def nmF (xs : List Nd) (k j : Nat) : AV := if j < k * 6 then (if j % 6 = 5 then .own (sub 1000000 (j / 6)) 0 1 (kd xs (j / 6)).length else ndF xs j) else zF [.int .i64 0, .int .i64 0, .int .i64 0, .int .i64 0, .int .i64 0, .slice none 0 0] j
/-- A row of n nodes, k of them laid, each with a row of children. -/
def NR (xs : List Nd) (k n : Nat) : Hp := fun h => if h = 1000000 then some (.cells (n * 6) (nmF xs k)) else if h / FB = 1000001 ∧ h % FB < k then some (.cells (kd xs (h % FB)).length (cM iv 0 (kd xs (h % FB)))) else none
theorem NR_self (xs : List Nd) (k n : Nat) : NR xs k n 1000000 = some (.cells (n * 6) (nmF xs k)) := if_pos rfl
theorem NR_sub {xs : List Nd} {k n i : Nat} (hi : i < k) (hk : k ≤ 1048576) : NR xs k n (sub 1000000 i) = some (.cells (kd xs i).length (cM iv 0 (kd xs i))) := by
  have h1 : sub 1000000 i ≠ 1000000 := by have := sub_ge 1000000 i; rw [FB_eq] at this; omega
  have h2 : i < FB := by rw [FB_eq]; omega
  simp [NR, h1, sub_div h2, sub_mod h2, hi]
theorem NR_add_self (xs : List Nd) (k n : Nat) : ((NR xs k n).add H) 1000000 = some (.cells (n * 6) (nmF xs k)) := Hp.add_some (NR_self xs k n)
end
/-- H holds the row of nodes whole. -/
structure HasNR (H : Hp) (xs : List Nd) : Prop where
  top : H 1000000 = some (.cells (xs.length * 6) (nmF xs xs.length))
  row : ∀ i, i < xs.length → H (sub 1000000 i) = some (.cells (kd xs i).length (cM iv 0 (kd xs i)))
section
variable {P : Program} {N : Cx} {A A' : Fr} {H H' : Hp}
theorem HasNR.base {xs : List Nd} (hx : xs.length ≤ 1048576) : HasNR ((NR xs xs.length xs.length).add H) xs := ⟨NR_add_self _ _ _, fun _ hi => Hp.add_some (NR_sub hi hx)⟩
theorem HasNR.upd {xs : List Nd} {e : Nat} {B : Blk} (he : e < 1000000) (h : HasNR H xs) : HasNR (H.upd e B) xs := by
  obtain ⟨h1, h2⟩ := h
  refine ⟨?_, fun i hi => ?_⟩
  · unfold Hp.upd; rw [if_neg (by omega)]; exact h1
  · have := sub_ge 1000000 i; rw [FB_eq] at this
    unfold Hp.upd; rw [if_neg (by omega)]; exact h2 i hi
end
end Go.Proofs.YticbabpajligbaaDoor
end
