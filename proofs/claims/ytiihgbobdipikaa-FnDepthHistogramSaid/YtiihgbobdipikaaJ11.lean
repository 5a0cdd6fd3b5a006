import Derived.Test.YtiihgbobdipikaaJ5
import Derived.Test.YtiihgbobdipikaaJ3
import Derived.Test.YtiihgbobdipikaaJ8
import Derived.Test.YtiihgbobdipikaaJ7
/- A pattern behind a word. -/
section
namespace Go.Proofs.Ytiihgbobdipikaa
open Go.Av
set_option linter.unusedSimpArgs false
set_option linter.unusedVariables false
attribute [local irreducible] AWP CallG Ob Br BrP Go.Av.Sub endQ AOps OpV AC thenA blkA opsVC opVC withA withArgs opsQ opQ CallQ withA2 withArgs2
open Go.Pm (Pm comp invp idn img)
end Go.Proofs.Ytiihgbobdipikaa
end
/- Whether a word is a shortest solution. -/
section
namespace Go.Proofs.Ytiihgbobdipikaa
open Go.Av
set_option linter.unusedSimpArgs false
set_option linter.unusedVariables false
attribute [local irreducible] AWP CallG Ob Br BrP Go.Av.Sub endQ AOps OpV AC thenA blkA opsVC opVC withA withArgs opsQ opQ CallQ withA2 withArgs2
open Go.Pm (Pm comp invp idn img)
noncomputable def ioP (p : Pz) (s w : List Int) : Prop := 0 ≤ dstP p s ∧ isW p.m.length w ∧ (w.length : Int) = dstP p s ∧ comp s (evalP p.n.toNat p.m w) = marks 0 s.length
noncomputable instance (p : Pz) (s w : List Int) : Decidable (ioP p s w) := by unfold ioP; infer_instance
end Go.Proofs.Ytiihgbobdipikaa
end
/- The letters that lead nearer, and where they lead. -/
section
namespace Go.Proofs.Ytiihgbobdipikaa
open Go.Av
set_option linter.unusedSimpArgs false
set_option linter.unusedVariables false
attribute [local irreducible] AWP CallG Ob Br BrP Go.Av.Sub endQ AOps OpV AC thenA blkA opsVC opVC withA withArgs opsQ opQ CallQ withA2 withArgs2
open Go.Pm (Pm comp invp idn img Gen Bf srch sorts srtN Srt slot sidx insAt)
theorem lets_neg : ∀ (m : Nat) (l : Int), l ∈ lets m → -l ∈ lets m
  | 0, l, h => by simp [lets] at h
  | m + 1, l, h => by
    unfold lets at h ⊢
    simp only [List.mem_append, List.mem_cons, List.not_mem_nil, or_false] at h ⊢
    rcases h with h | h | h
    · exact .inl (lets_neg m l h)
    · rw [h]; exact .inr (.inr rfl)
    · rw [h, Int.neg_neg]; exact .inr (.inl rfl)
theorem letP_neg {n : Nat} {g : List (List Int)} {l : Int} (hg : gensP n g) (hl : inL g l) : comp (letP g l) (letP g (-l)) = idn n := by
  have h1 := letP_pm hg hl
  unfold inL at hl
  unfold letP at h1 ⊢
  by_cases e : 0 < l
  · rw [if_pos e] at h1
    rw [if_pos e, if_neg (by omega), show - -l - 1 = l - 1 by omega]
    exact h1.comp_inv
  · have h2 : Pm n (g.getD (-l - 1).toNat []) := hg.2.2 _ (by omega)
    rw [if_neg e, if_pos (by omega)]
    exact h2.inv_comp
theorem lsP_inv {p : Pz} (hz : isPz p) : Go.Pm.InvL p.n.toNat (lsP p) := by
  intro x hx
  simp only [lsP, List.mem_map] at hx
  obtain ⟨l, hl, rfl⟩ := hx
  refine ⟨(-l, letP p.m (-l)), List.mem_map.2 ⟨-l, lets_neg _ _ hl, rfl⟩, ?_⟩
  obtain ⟨j, hj, rfl⟩ := List.getElem_of_mem hl
  have := lets_inL p.m j hj
  rw [List.getD_eq_getElem?_getD, List.getElem?_eq_getElem hj] at this
  exact letP_neg hz.gens this
section
variable {P : Program} {N : Cx} {A : Fr} {H : Hp}
end
end Go.Proofs.Ytiihgbobdipikaa
end
/- The first letters of shortest words. -/
section
namespace Go.Proofs.Ytiihgbobdipikaa
open Go.Av
set_option linter.unusedSimpArgs false
set_option linter.unusedVariables false
attribute [local irreducible] AWP CallG Ob Br BrP Go.Av.Sub endQ AOps OpV AC thenA blkA opsVC opVC withA withArgs opsQ opQ CallQ withA2 withArgs2
open Go.Pm (Pm comp invp idn img Gen Bf srch sorts srtN Srt slot sidx insAt)
end Go.Proofs.Ytiihgbobdipikaa
end
/- The least shortest words. -/
section
namespace Go.Proofs.Ytiihgbobdipikaa
open Go.Av
set_option linter.unusedSimpArgs false
set_option linter.unusedVariables false
attribute [local irreducible] AWP CallG Ob Br BrP Go.Av.Sub endQ AOps OpV AC thenA blkA opsVC opVC withA withArgs opsQ opQ CallQ withA2 withArgs2
open Go.Pm (Pm comp invp idn img Gen Bf srch sorts srtN Srt slot sidx insAt)
theorem XA_isSt {p : Pz} (h : (XS p).isSome = true) {s : List Int} (hs : s ∈ (XA p).st) : isSt p s := by
  have hz := (XA_whole h).1
  have h1 := ((XA_mem h s).1 hs).pm (lsP_pm hz)
  have hn := hz.n
  exact ⟨hz, by rw [h1.1]; omega, (isPerm_pm _).2 ⟨by rw [h1.1]; omega, by rw [h1.1]; exact h1⟩⟩
end Go.Proofs.Ytiihgbobdipikaa
end
