import Derived.Test.YtngpacdhpblpbaaE15
import Derived.Test.YtngpacdhpblpbaaE5
import Derived.Test.YtngpacdhpblpbaaE4
import Derived.Test.YtngpacdhpblpbaaE11
/- Partitions and block systems, the program: the numbers of blocks. -/
section
namespace Go.Proofs.Ytngpacdhpblpbaa
open Go.Av
set_option linter.unusedSimpArgs false
set_option linter.unusedVariables false
attribute [local irreducible] AWP CallG Ob Br BrP Go.Av.Sub endQ AOps OpV AC thenA blkA opsVC opVC withA withArgs opsQ opQ CallQ withA2 withArgs2
open Go.Pm (Pm ptI partI IsPart ixP Rsp rspI actP img invp)
/-- Labels when what seenP lists has been met. -/
structure CL (n : Nat) (bs : List (List Int)) (i k : Nat) (L : List Int) : Prop where
  len : L.length = n
  past : ∀ j, j < i → blkI n bs j
  nd : (seenP bs i k).Nodup
  hit : ∀ x : Nat, (x : Int) ∈ seenP bs i k → ∃ j, j < bs.length ∧ (x : Int) ∈ bs.getD j [] ∧ L.getD x 0 = (j : Int)
  miss : ∀ x : Nat, x < n → (x : Int) ∉ seenP bs i k → L.getD x 0 = -1
noncomputable instance (n : Nat) (bs : List (List Int)) : Decidable (IsPart n bs) := Classical.propDecidable _
theorem rep_neg {n x : Nat} (hx : x < n) : (rep [-1] n).getD x 0 = -1 := by
  have : rep [-1] n = List.replicate n (-1) := by
    unfold rep
    induction n with
    | zero => rfl
    | succ n ih =>
      by_cases h : x < n
      · rw [List.replicate_succ, List.flatten_cons, ih h]; rfl
      · rw [List.replicate_succ, List.flatten_cons]
        have : ∀ m : Nat, (List.replicate m [(-1 : Int)]).flatten = List.replicate m (-1) := fun m => by
          induction m with
          | zero => rfl
          | succ m ih => rw [List.replicate_succ, List.flatten_cons, ih]; rfl
        rw [this]; rfl
  rw [this, List.getD_eq_getElem?_getD, List.getElem?_replicate, if_pos hx]; rfl
section
variable {n i k : Nat} {bs : List (List Int)} {L : List Int}
theorem CL.zero (n : Nat) (bs : List (List Int)) : CL n bs 0 0 (rep [-1] n) :=
  ⟨by rw [rep_length]; simp, fun _ h => absurd h (Nat.not_lt_zero _), by simp [seenP], fun x h => by simp [seenP] at h, fun x hx _ => rep_neg hx⟩
theorem CL.step (h : CL n bs i k L) (hi : i < bs.length) (hk : k < (bs.getD i []).length) {x : Nat} (e : (bs.getD i []).getD k 0 = (x : Int)) (hx : x < n) (hm : ¬ 0 ≤ L.getD x 0) : CL n bs i (k + 1) (L.set x (i : Int)) := by
  have hns : (x : Int) ∉ seenP bs i k := fun hc => by
    obtain ⟨j, _, _, e2⟩ := h.hit x hc
    omega
  have hlx : x < L.length := by rw [h.len]; exact hx
  have hmem : (x : Int) ∈ bs.getD i [] := by rw [← e]; exact Go.Pm.row_mem hk
  refine ⟨by rw [List.length_set]; exact h.len, h.past, ?_, fun y hy => ?_, fun y hy hn => ?_⟩
  · rw [seenP_succ hk, e, List.nodup_append]
    exact ⟨h.nd, by simp, fun a ha b hb e2 => by rw [List.mem_singleton] at hb; subst hb; subst e2; exact hns ha⟩
  · rw [getD_set hlx]
    rw [seenP_succ hk, e, List.mem_append, List.mem_singleton] at hy
    split
    · rename_i e2; subst e2; exact ⟨i, hi, hmem, rfl⟩
    · rename_i e2
      rcases hy with hy | hy
      · exact h.hit y hy
      · exact absurd (by omega) e2
  · rw [seenP_succ hk, e, List.mem_append, List.mem_singleton] at hn
    rw [getD_set hlx, if_neg (fun e2 => hn (.inr (by rw [e2])))]
    exact h.miss y hy fun hc => hn (.inl hc)
theorem CL.next (h : CL n bs i (bs.getD i []).length L) (hi : i < bs.length) (hb : blkI n bs i) : CL n bs (i + 1) 0 L := by
  have e : seenP bs (i + 1) 0 = seenP bs i (bs.getD i []).length := by rw [seenP_next hi, seenP_zero]
  refine ⟨h.len, fun j hj => ?_, by rw [e]; exact h.nd, by rw [e]; exact h.hit, by rw [e]; exact h.miss⟩
  by_cases e2 : j = i
  · subst e2; exact hb
  · exact h.past j (by omega)
theorem CL.flat (h : CL n bs bs.length 0 L) : seenP bs bs.length 0 = bs.flatten := by rw [seenP_zero, List.take_length]
theorem CL.iff (h : CL n bs bs.length 0 L) : ¬ (-1 : Int) ∈ L ↔ IsPart n bs := by
  have hf := h.flat
  constructor
  · intro hc
    refine Go.Pm.partI_iff.1 ⟨h.past, by have := h.nd; rwa [hf] at this, ?_⟩
    have h1 := seenP_len (n := n) (by omega) (Nat.le_refl _) h.past (.inr rfl) h.nd
    have h2 := Go.Plain.nodup_le bs.flatten ((List.range n).map fun y : Nat => (y : Int)) (List.pairwise_map.2 (List.nodup_range.imp fun h e => h (by omega))) fun v hv => by
      obtain ⟨y, hy, rfl⟩ := List.mem_map.1 hv
      have hy := List.mem_range.1 hy
      refine Classical.byContradiction fun hn => ?_
      have e := h.miss y hy (by rw [hf]; exact hn)
      exact hc (by rw [← e]; exact Go.Pm.row_mem (by rw [h.len]; exact hy))
    rw [List.length_map, List.length_range] at h2
    rw [hf] at h1
    omega
  · intro hp hc
    obtain ⟨x, hx, e⟩ := List.getElem_of_mem hc
    have hxn : x < n := by rw [← h.len]; exact hx
    obtain ⟨j, hj, hm, _⟩ := Go.Pm.ixP_spec hp hxn
    obtain ⟨j2, _, _, e2⟩ := h.hit x (by rw [hf]; exact List.mem_flatten.2 ⟨_, Go.Pm.getD_mem (b := []) hj, hm⟩)
    rw [List.getD_eq_getElem?_getD, List.getElem?_eq_getElem hx] at e2
    have e2 : L[x] = (j2 : Int) := e2
    omega
theorem CL.ix (h : CL n bs bs.length 0 L) (hp : IsPart n bs) : L = ixP n bs := by
  have hf := h.flat
  refine eq_of_getD (by rw [h.len, Go.Pm.ixP_len]) fun x hx => ?_
  obtain ⟨j, hj, hm, _⟩ := Go.Pm.ixP_spec hp (x := x) (by rw [← h.len]; exact hx)
  obtain ⟨j2, hj2, hm2, e2⟩ := h.hit x (by rw [hf]; exact List.mem_flatten.2 ⟨_, Go.Pm.getD_mem (b := []) hj, hm⟩)
  rw [e2, Go.Pm.ixP_mem hp hj2 hm2]
end
noncomputable instance (n : Nat) (g : List Int) (bs : List (List Int)) : Decidable (rspI n g bs) := Classical.propDecidable _
end Go.Proofs.Ytngpacdhpblpbaa
end
/- Block systems, the program: merging labels. -/
section
namespace Go.Proofs.Ytngpacdhpblpbaa
open Go.Av
set_option linter.unusedSimpArgs false
set_option linter.unusedVariables false
attribute [local irreducible] AWP CallG Ob Br BrP Go.Av.Sub endQ AOps OpV AC thenA blkA opsVC opVC withA withArgs opsQ opQ CallQ withA2 withArgs2
open Go.Pm (Pm ptI partI IsPart ixP Rsp rspI actP img invp mrg Lbl SL SB parts loR clsF clsN partK Cg MB Snd cntL idn)
end Go.Proofs.Ytngpacdhpblpbaa
end
/- Block systems, the program: blocks by labels. -/
section
namespace Go.Proofs.Ytngpacdhpblpbaa
open Go.Av
set_option linter.unusedSimpArgs false
set_option linter.unusedVariables false
attribute [local irreducible] AWP CallG Ob Br BrP Go.Av.Sub endQ AOps OpV AC thenA blkA opsVC opVC withA withArgs opsQ opQ CallQ withA2 withArgs2
open Go.Pm (Pm ptI partI IsPart ixP Rsp rspI actP img invp mrg Lbl SL SB parts loR clsF clsN partK Cg MB Snd cntL idn)
theorem sub_inj {d i j : Nat} (hi : i < 1000) (hj : j < 1000) (h : sub d i = sub d j) : i = j := by
  have h1 := sub_mod (d := d) (i := i) (by rw [FB_eq]; omega)
  have h2 := sub_mod (d := d) (i := j) (by rw [FB_eq]; omega)
  rw [h, h2] at h1
  exact h1.symm
end Go.Proofs.Ytngpacdhpblpbaa
end
