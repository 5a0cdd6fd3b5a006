import Derived.Test.YticbabpajligbaaDoorK22
import Derived.Test.YticbabpajligbaaDoorK14
import Derived.Test.YticbabpajligbaaDoorK20
import Derived.Test.YticbabpajligbaaDoorK3
/- Drawn syntax trees: w9Tree. -/
section
namespace Go.Proofs.YticbabpajligbaaDoor
open Go.Av
set_option linter.unusedSimpArgs false
set_option linter.unusedVariables false
attribute [local irreducible] AWP CallG Ob Br BrP Go.Av.Sub endQ AOps OpV AC thenA blkA opsVC opVC withA withArgs opsQ opQ CallQ withA2 withArgs2
open Go.Nt (Nd nd0 kd ndOk sz isNt DrI DrS rtN allT)
end Go.Proofs.YticbabpajligbaaDoor
end
/- Texts of drawn syntax trees read back (facts, no walk). -/
section
namespace Go.Proofs.YticbabpajligbaaDoor
open Go.Av
set_option linter.unusedSimpArgs false
set_option linter.unusedVariables false
attribute [local irreducible] AWP CallG Ob Br BrP Go.Av.Sub endQ AOps OpV AC thenA blkA opsVC opVC withA withArgs opsQ opQ CallQ withA2 withArgs2
open Go.Nt (Nd nd0 kd ndOk sz isNt jn kdT allT rtN NmD nmOk pSeq bt li)
abbrev nmAB : ByteArray := ⟨#[65, 66]⟩
theorem ab_nm : nmP nmAB := by
  refine ⟨by decide, fun i hi => ?_⟩
  have hi : i < 2 := hi
  match i, hi with
  | 0, _ => decide
  | 1, _ => decide
theorem ab_d : NmD nmAB := ⟨nm_ok ab_nm, fun i hi k hk => by
  have hi : i < 2 := hi
  match i, k, hi, hk with
  | 1, 0, _, _ => decide⟩
theorem ab8 : 1 ≤ nmAB.size ∧ nmAB.size ≤ 8 := ⟨by decide, by decide⟩
theorem p_none (n : Nat) (l : List Nd) (ks : List Int) : pSeq nmAB ⟨#[]⟩ 2 0 [] [] ≠ .ok n l ks := by
  have e : pSeq nmAB ⟨#[]⟩ 2 0 [] [] = .bad 0 := rfl
  rw [e]; intro h; cases h
/-- A tree whose last node has no children is that node alone. -/
theorem root_one {xs : List Nd} (hv : isNt nmAB.size xs) (hk : kd xs (xs.length - 1) = []) : xs = [rtN []] ∧ allT fmS nmAB xs = ⟨#[]⟩ := by
  have h1 := hv.2.2.2
  rw [Go.Nt.sz_eq, hk] at h1
  have h2 : xs.length = 1 := by
    have : (some 1 : Option Nat) = some xs.length := h1
    simpa using this.symm
  refine ⟨?_, ?_⟩
  · have := Go.Nt.root_eq hv
    rw [hk, h2] at this
    exact this
  · unfold Go.Nt.allT
    rw [show kdT fmS nmAB xs (xs.length - 1) = [] from by show (kd xs (xs.length - 1)).map _ = []; rw [hk]; rfl]
    rfl
end Go.Proofs.YticbabpajligbaaDoor
end
/- How bytes read. -/
section
namespace Go.Av
open Go.ChangeShapes Go.WideShapes Go.ChangeAt Go.RowKit
section
variable {P : Program} {H : Type} {enc : TypeId × Value → H} {w : World} {base : Nat} {spare : Nat → Bool} {held : Bool} {L : Loc}
theorem in8_wf {n : Int} (h : (Lit.int .u8 n).wf = true) : 0 ≤ n ∧ n ≤ 255 := by
  simp [Lit.wf, IntKind.min, IntKind.max] at h
  revert h
  simp only [show IntKind.u8.signed = false from rfl, show IntKind.u8.bits = 8 from rfl]
  intro h
  simp at h
  omega
theorem rd_bytes {t e : TypeId} {fuel : Nat} {cs : List Value} {x : DataW H × List MemPlace} (ht : P.underlying t = some (.slice e)) (he : P.underlying e = some (.int .u8)) (hc : P.cellsOf e = 1) (h : DataW.trod enc P w base spare held fuel t cs = some x) :
    ∃ (v : Value) (xs : List Int), cs = [v] ∧ (∀ L, Rd w All L (bts xs) v) ∧ xs.length ≤ 9223372036854775807 ∧ ∀ j, 0 ≤ xs.getD j 0 ∧ xs.getD j 0 ≤ 255 := by
  have hm : maxLen = 9223372036854775807 := by decide
  rcases open_ints ht he hc h with ⟨rfl, _⟩ | ⟨a, len, cap, zs, rfl, _, hl, hmx, hz, _, hcell, hwf⟩
  · exact ⟨_, [], rfl, fun L => ⟨none, 0, rfl, Nat.le_refl _, by simp, fun _ => ⟨rfl, rfl⟩, by simp⟩, by simp, by simp⟩
  · have hlen : len ≤ zs.length := by rw [hz]; split <;> omega
    refine ⟨_, zs.take len, rfl, fun L => rd_list u8v 0 (V := fun i => .int .u8 (zs.getD i 0)) (by simp; omega) hl (fun i hi => hcell i (by omega)) (fun i hi L' => ?_), by simp; omega, fun j => ?_⟩
    · have e : (zs.take len).getD i 0 = zs.getD i 0 := by simp [hi]
      rw [e]; rfl
    · by_cases hj : j < (zs.take len).length
      · rw [List.getD_eq_getElem?_getD, List.getElem?_eq_getElem hj, Option.getD_some]
        exact in8_wf (hwf _ (List.mem_of_mem_take (List.getElem_mem hj)))
      · rw [List.getD_eq_getElem?_getD, List.getElem?_eq_none (by omega), Option.getD_none]; omega
end
end Go.Av
end
