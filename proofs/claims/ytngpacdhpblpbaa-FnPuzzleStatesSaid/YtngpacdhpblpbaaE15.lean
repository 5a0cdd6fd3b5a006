import Derived.Test.YtngpacdhpblpbaaE13
import Derived.Test.YtngpacdhpblpbaaE5
import Derived.Test.YtngpacdhpblpbaaE3
/- Partitions and block systems, the reference: looking at them. -/
section
namespace Go.Proofs.Ytngpacdhpblpbaa
open Go.Av
set_option linter.unusedSimpArgs false
set_option linter.unusedVariables false
attribute [local irreducible] AWP CallG Ob Br BrP Go.Av.Sub endQ AOps OpV AC thenA blkA opsVC opVC withA withArgs opsQ opQ CallQ withA2 withArgs2
open Go.Pm (Pm ptI partI IsPart ixP Rsp rspI actP img invp)
noncomputable instance (n : Int) (b : List Int) : Decidable (ptI n b) := Classical.propDecidable _
noncomputable instance (n : Int) (bs : List (List Int)) : Decidable (partI n bs) := Classical.propDecidable _
/-- What is looked at when i blocks and k points of the next one have been. -/
def seenP (bs : List (List Int)) (i k : Nat) : List Int := (bs.take i).flatten ++ (bs.getD i []).take k
theorem seenP_zero (bs : List (List Int)) (i : Nat) : seenP bs i 0 = (bs.take i).flatten := by unfold seenP; rw [List.take_zero, List.append_nil]
theorem seenP_succ {bs : List (List Int)} {i k : Nat} (hk : k < (bs.getD i []).length) : seenP bs i (k + 1) = seenP bs i k ++ [(bs.getD i []).getD k 0] := by
  unfold seenP
  rw [List.take_succ_eq_append_getElem hk, List.append_assoc, show (bs.getD i []).getD k 0 = (bs.getD i [])[k] from (by rw [List.getD_eq_getElem?_getD, List.getElem?_eq_getElem hk]; rfl)]
theorem seenP_next {bs : List (List Int)} {i : Nat} (hi : i < bs.length) : seenP bs i (bs.getD i []).length = (bs.take (i + 1)).flatten := by
  unfold seenP
  rw [List.take_length, List.take_succ_eq_append_getElem hi, List.flatten_append, show bs.getD i [] = bs[i] by simp [hi]]
  simp
/-- A block is what it should be. -/
def blkI (n : Int) (bs : List (List Int)) (i : Nat) : Prop := bs.getD i [] ≠ [] ∧ ptI n (bs.getD i []) ∧ (0 < i → (bs.getD (i - 1) []).getD 0 0 < (bs.getD i []).getD 0 0)
theorem blkI_rng {n : Int} {bs : List (List Int)} {i : Nat} (h : blkI n bs i) {v : Int} (hv : v ∈ bs.getD i []) : 0 ≤ v ∧ v < n := (Go.Pm.ptI_iff.1 h.2.1).2 v hv
theorem seenP_rng {n : Int} {bs : List (List Int)} {i k : Nat} (hi : i ≤ bs.length) (h : ∀ j, j < i → blkI n bs j) (hb : blkI n bs i ∨ k = 0) {v : Int} (hv : v ∈ seenP bs i k) : 0 ≤ v ∧ v < n := by
  unfold seenP at hv
  rcases List.mem_append.1 hv with hv | hv
  · obtain ⟨b, hb, hm⟩ := List.mem_flatten.1 hv
    obtain ⟨j, hj, rfl⟩ := List.getElem_of_mem hb
    rw [List.length_take] at hj
    rw [List.getElem_take] at hm
    exact blkI_rng (h j (by omega)) (by rw [show bs.getD j [] = bs[j] by simp [show j < bs.length by omega]]; exact hm)
  · rcases hb with hb | rfl
    · exact blkI_rng hb (List.mem_of_mem_take hv)
    · simp at hv
theorem seenP_len {n : Int} {bs : List (List Int)} {i k : Nat} (hn : 0 ≤ n) (hi : i ≤ bs.length) (h : ∀ j, j < i → blkI n bs j) (hb : blkI n bs i ∨ k = 0) (hnd : (seenP bs i k).Nodup) : ((seenP bs i k).length : Int) ≤ n := by
  have := Go.Plain.nodup_le ((List.range n.toNat).map fun y : Nat => (y : Int)) (seenP bs i k) hnd fun v hv => by
    have := seenP_rng hi h hb hv
    exact List.mem_map.2 ⟨v.toNat, List.mem_range.2 (by omega), by omega⟩
  rw [List.length_map, List.length_range] at this
  omega
noncomputable instance (n : Nat) (g : List Int) (bs : List (List Int)) : Decidable (Rsp n g bs) := Classical.propDecidable _
end Go.Proofs.Ytngpacdhpblpbaa
end
/- Block systems, the reference: merging labels, blocks by labels. -/
section
namespace Go.Proofs.Ytngpacdhpblpbaa
open Go.Av
set_option linter.unusedSimpArgs false
set_option linter.unusedVariables false
attribute [local irreducible] AWP CallG Ob Br BrP Go.Av.Sub endQ AOps OpV AC thenA blkA opsVC opVC withA withArgs opsQ opQ CallQ withA2 withArgs2
open Go.Pm (Pm ptI partI IsPart ixP Rsp rspI actP img invp mrg Lbl SL parts loR clsF clsN partK)
end Go.Proofs.Ytngpacdhpblpbaa
end
/- Block systems, the reference: the finest block system with two points in one block. -/
section
namespace Go.Proofs.Ytngpacdhpblpbaa
open Go.Av
set_option linter.unusedSimpArgs false
set_option linter.unusedVariables false
attribute [local irreducible] AWP CallG Ob Br BrP Go.Av.Sub endQ AOps OpV AC thenA blkA opsVC opVC withA withArgs opsQ opQ CallQ withA2 withArgs2
open Go.Pm (Pm ptI partI IsPart ixP Rsp rspI actP img invp mrg Lbl SL parts loR clsF clsN partK Cg MB Snd cntL idn)
section
variable {n k i j : Nat} {gs : List (List Int)} {L : List Int}
end
/-- Blocks are a block system. -/
def isBS (n : Int) (gs bs : List (List Int)) : Prop := isGens n gs ∧ IsPart n.toNat bs ∧ ∀ k, k < gs.length → Rsp n.toNat (gs.getD k []) bs
noncomputable instance (n : Int) (gs bs : List (List Int)) : Decidable (isBS n gs bs) := Classical.propDecidable _
end Go.Proofs.Ytngpacdhpblpbaa
end
/- Block systems, the reference: the join of two partitions. -/
section
namespace Go.Proofs.Ytngpacdhpblpbaa
open Go.Av
set_option linter.unusedSimpArgs false
set_option linter.unusedVariables false
attribute [local irreducible] AWP CallG Ob Br BrP Go.Av.Sub endQ AOps OpV AC thenA blkA opsVC opVC withA withArgs opsQ opQ CallQ withA2 withArgs2
open Go.Pm (Pm ptI partI IsPart ixP Rsp rspI actP img invp mrg Lbl SL SB parts loR clsF clsN partK Cg MB Snd cntL idn)
/-- Points of one block of the one or the other. -/
def jjP (a b : List (List Int)) (i j : Nat) : Prop := SB a i j ∨ SB b i j
/-- Labels when i blocks and k points of the next one have been joined. -/
structure JL (n : Nat) (a b : List (List Int)) (i k : Nat) (L : List Int) : Prop where
  lbl : Lbl n L
  snd : Snd n [] (jjP a b) L
  past : ∀ i', i' < i → ∀ k', k' < ((a ++ b).getD i' []).length → SL L (((a ++ b).getD i' []).getD 0 0).toNat (((a ++ b).getD i' []).getD k' 0).toNat
  row : ∀ k', k' < k → SL L (((a ++ b).getD i []).getD 0 0).toNat (((a ++ b).getD i []).getD k' 0).toNat
section
variable {n i k : Nat} {a b : List (List Int)} {L : List Int}
theorem app_part (ha : IsPart n a) (hb : IsPart n b) {i : Nat} (hi : i < (a ++ b).length) : (∃ c, (IsPart n c) ∧ (∀ x y, SB c x y → jjP a b x y) ∧ ∃ j, j < c.length ∧ (a ++ b).getD i [] = c.getD j []) := by
  rw [List.length_append] at hi
  by_cases h : i < a.length
  · exact ⟨a, ha, fun x y h => .inl h, i, h, by simp [List.getD_eq_getElem?_getD, List.getElem?_append, h]⟩
  · exact ⟨b, hb, fun x y h => .inr h, i - a.length, by omega, by rw [List.getD_eq_getElem?_getD, List.getElem?_append_right (by omega), ← List.getD_eq_getElem?_getD]⟩
theorem app_entry (ha : IsPart n a) (hb : IsPart n b) {i k : Nat} (hi : i < (a ++ b).length) (hk : k < ((a ++ b).getD i []).length) : ∃ x : Nat, ((a ++ b).getD i []).getD k 0 = (x : Int) ∧ x < n ∧ ∀ y : Nat, (y : Int) ∈ (a ++ b).getD i [] → jjP a b y x := by
  obtain ⟨c, hc, hj, m, hm, e⟩ := app_part ha hb hi
  rw [e] at hk ⊢
  obtain ⟨x, h1, h2, h3⟩ := hc.entry hm hk
  exact ⟨x, h1, h2, fun y hy => hj _ _ ⟨_, Go.Pm.getD_mem (b := []) hm, hy, h3⟩⟩
theorem app_pos (ha : IsPart n a) (hb : IsPart n b) {i : Nat} (hi : i < (a ++ b).length) : 0 < ((a ++ b).getD i []).length := by
  obtain ⟨c, hc, hj, m, hm, e⟩ := app_part ha hb hi
  rw [e]; exact hc.pos hm
theorem JL.zero (n : Nat) (a b : List (List Int)) : JL n a b 0 1 (idn n) := ⟨.idn n, .idn, fun _ h => absurd h (Nat.not_lt_zero _), fun k' h => by
  have : k' = 0 := by omega
  subst this; rfl⟩
theorem JL.step (ha : IsPart n a) (hb : IsPart n b) (h : JL n a b i k L) (hi : i < (a ++ b).length) (hk : k < ((a ++ b).getD i []).length) :
    JL n a b i (k + 1) (mrg L (L.getD (((a ++ b).getD i []).getD 0 0).toNat 0) (L.getD (((a ++ b).getD i []).getD k 0).toNat 0)) := by
  obtain ⟨x, e1, hx, _⟩ := app_entry ha hb hi (app_pos ha hb hi)
  obtain ⟨y, e2, hy, hr⟩ := app_entry ha hb hi hk
  have hxm : (x : Int) ∈ (a ++ b).getD i [] := by rw [← e1]; exact Go.Pm.row_mem (app_pos ha hb hi)
  have hcg : Cg [] (jjP a b) x y := .base (hr x hxm)
  have hll := h.lbl.len
  have keep : ∀ {i' k' : Nat}, i' < (a ++ b).length → k' < ((a ++ b).getD i' []).length → SL L (((a ++ b).getD i' []).getD 0 0).toNat (((a ++ b).getD i' []).getD k' 0).toNat →
      SL (mrg L (L.getD x 0) (L.getD y 0)) (((a ++ b).getD i' []).getD 0 0).toNat (((a ++ b).getD i' []).getD k' 0).toNat := fun hi' hk' hs => by
    obtain ⟨u, f1, hu, _⟩ := app_entry ha hb hi' (app_pos ha hb hi')
    obtain ⟨v, f2, hv, _⟩ := app_entry ha hb hi' hk'
    rw [f1, f2, Int.toNat_natCast, Int.toNat_natCast] at hs ⊢
    exact hs.mrg hll hu hv _ _
  rw [e1, e2, Int.toNat_natCast, Int.toNat_natCast]
  refine ⟨h.lbl.mrg (h.lbl.rng x hx), h.snd.mrg hll hx hy hcg, fun i' hi' k' hk' => keep (by omega) hk' (h.past i' hi' k' hk'), fun k' hk' => ?_⟩
  by_cases e : k' = k
  · subst e
    rw [e1, e2, Int.toNat_natCast, Int.toNat_natCast]
    exact Go.Pm.SL.made hll hx hy
  · exact keep hi (by omega) (h.row k' (by omega))
theorem JL.next (h : JL n a b i ((a ++ b).getD i []).length L) : JL n a b (i + 1) 1 L := ⟨h.lbl, h.snd, fun i' hi' => by
  by_cases e : i' = i
  · subst e; exact h.row
  · exact h.past i' (by omega), fun k' h => by
  have : k' = 0 := by omega
  subst this; rfl⟩
theorem JL.done (ha : IsPart n a) (hb : IsPart n b) (h : JL n a b (a ++ b).length k L) : partK n (SL L) n = parts (Cg [] (jjP a b)) n := by
  have lt : ∀ {c : List (List Int)} {i j : Nat}, IsPart n c → SB c i j → i < n ∧ j < n := fun hc ⟨k, hk, m1, m2⟩ => by
    have := hc.rng k hk _ m1
    have := hc.rng k hk _ m2
    omega
  have key : ∀ i, i < (a ++ b).length → ∀ x y : Nat, (x : Int) ∈ (a ++ b).getD i [] → (y : Int) ∈ (a ++ b).getD i [] → SL L x y := fun i hi x y hx hy => by
    obtain ⟨k1, h1, e1⟩ := List.getElem_of_mem hx
    obtain ⟨k2, h2, e2⟩ := List.getElem_of_mem hy
    have q1 := h.past i hi k1 h1
    have q2 := h.past i hi k2 h2
    rw [show ((a ++ b).getD i []).getD k1 0 = (x : Int) from (by rw [List.getD_eq_getElem?_getD (l := (a ++ b).getD i []), List.getElem?_eq_getElem h1]; exact e1), Int.toNat_natCast] at q1
    rw [show ((a ++ b).getD i []).getD k2 0 = (y : Int) from (by rw [List.getD_eq_getElem?_getD (l := (a ++ b).getD i []), List.getElem?_eq_getElem h2]; exact e2), Int.toNat_natCast] at q2
    exact (Eq.symm q1).trans q2
  have mem : ∀ c ∈ a ++ b, ∃ i, i < (a ++ b).length ∧ (a ++ b).getD i [] = c := fun c hc => Go.Pm.row_at hc
  refine Go.Pm.partK_congr (fun i j hi hj => Go.Pm.Cg.iff (fun g hg => by cases hg) (fun x y hxy => ?_) h.snd (fun g hg => by cases hg) hi hj) (Nat.le_refl n)
  rcases hxy with ⟨c, hc, m1, m2⟩ | ⟨c, hc, m1, m2⟩
  · obtain ⟨q1, q2⟩ := lt ha ⟨c, hc, m1, m2⟩
    obtain ⟨i, hi, e⟩ := mem c (List.mem_append_left _ hc)
    exact ⟨q1, q2, key i hi x y (by rw [e]; exact m1) (by rw [e]; exact m2)⟩
  · obtain ⟨q1, q2⟩ := lt hb ⟨c, hc, m1, m2⟩
    obtain ⟨i, hi, e⟩ := mem c (List.mem_append_right _ hc)
    exact ⟨q1, q2, key i hi x y (by rw [e]; exact m1) (by rw [e]; exact m2)⟩
end
end Go.Proofs.Ytngpacdhpblpbaa
end
