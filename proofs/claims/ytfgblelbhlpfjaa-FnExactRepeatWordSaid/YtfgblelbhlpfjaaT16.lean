/- impl.inverseWord's contract over abstract values. -/
import Derived.Test.YtfgblelbhlpfjaaT15
import Derived.Test.YtfgblelbhlpfjaaT3
namespace Go.Proofs.Ytfgblelbhlpfjaa
open Go.Av
set_option linter.unusedSimpArgs false
set_option linter.unusedVariables false

theorem back_negs (zs : List Int) (hb : ∀ j, -1000 ≤ zs.getD j 0 ∧ zs.getD j 0 ≤ 1000) : negs (upto (bk zs.length zs) zs.length) = inv zs := by
  refine List.ext_getElem (by simp [negs, upto, inv]) fun i h1 h2 => ?_
  have hi : i < zs.length := by simpa [negs, upto] using h1
  have h3 := hb (zs.length - 1 - i)
  rw [List.getD_eq_getElem?_getD, List.getElem?_eq_getElem (show zs.length - 1 - i < zs.length by omega)] at h3
  simp only [Option.getD_some] at h3
  have e : Go.RowKit.wrap64 (-zs[zs.length - 1 - i]) = -zs[zs.length - 1 - i] := by
    unfold Go.RowKit.wrap64; omega
  simp [negs, upto, inv, bk, e, show zs.length - 1 - i < zs.length by omega]

theorem inverseWord_ok (zs : List Int) (hz : zs.length ≤ 1048576) (hb : ∀ j, -1000 ≤ zs.getD j 0 ∧ zs.getD j 0 ≤ 1000) (d : Nat) : AC Try.prog 97 [ints zs] Hp.emp (fun _ => false) (retI d (inv zs)) := by
  refine ⟨by kernel_rfl, fun S w L vs hS hpin s hargs => ?_⟩
  obtain ⟨h1, h2⟩ := hargs
  obtain ⟨u, k1, a, cap, rfl, k2, _, k3, k4⟩ := h2 0 _ rfl
  have hvs : vs = #[.slice a zs.length cap] := by
    refine Array.ext (by simpa using h1) fun i hi _ => ?_
    have : i = 0 := by simp at h1; omega
    subst this
    simpa using (Array.getElem?_eq_some_iff.1 k1).2
  subst hvs
  have hI : BackInts w.heap.size w (.slice a zs.length cap) zs := by
    by_cases hn : zs = []
    · subst hn; exact .inl ⟨⟨_, _, rfl⟩, rfl⟩
    · have hl : 0 < zs.length := by
        cases zs with
        | nil => exact absurd rfl hn
        | cons => simp
      cases a with
      | none => have := (k3 rfl).1; omega
      | some p =>
        obtain ⟨e0, _, c0, e2, _⟩ := k4 p rfl 0 (by omega)
        have hp : p = ⟨p.block, p.off, none⟩ := by cases p; simp_all
        refine .inr ⟨p.block, p.off, cap, by rw [← hp], World.block_lt_of_cell? w ⟨p.block, p.off + 0, none⟩ e2, fun j hj => ?_⟩
        obtain ⟨_, _, c, e3, e4⟩ := k4 p rfl j (by omega)
        have := e4 L
        simp only [cM_iv_app, Rd] at this
        rw [e3, this, List.getD_eq_getElem?_getD]
  refine (callsIn_wide.1 (inverseWord_in Fence.wide 3 trivial trivial trivial rfl (Nat.le_refl _) a zs.length cap zs hz w hI)).mono ?_
  rintro e w' ⟨v, rfl, hrow, hnil, hB⟩
  rw [back_negs zs hb] at hrow
  have hkeep : Keep w S.wr w' := ⟨hB.os, hB.tape, hB.output, hB.size, fun b hb _ => hB.block b hb, fun b cs e fz hb => ⟨cs, by rw [hB.block b (Array.getElem?_eq_some_iff.1 hb).1]; exact hb, rfl⟩⟩
  have hp : ∀ h l, S.pin h = some l → False := fun h l hl => by rw [hpin h rfl] at hl; cases hl
  rcases hrow.2 with ⟨rfl, h0⟩ | ⟨g, cap', cur, rfl, hg, hgb, hc1, hc2, hc3, hc4⟩
  · have hz0 : zs = [] := List.length_eq_zero_iff.1 h0
    subst hz0
    refine ⟨_, fun _ => none, .own d 0 1 0, Hp.emp.upd d (.cells 0 (cM iv 0 [])), rfl, ⟨hkeep, rfl, fun i a h => by simp [Fr.get] at h, fun h B hB => ?_, fun h q _ hq => (by cases hq), fun h g q r _ _ hq => (by cases hq), fun h l hl => (hp h l hl).elim⟩, ⟨rfl, rfl⟩, rfl, rfl⟩
    obtain ⟨rfl, rfl⟩ := upd_some hB
    rfl
  · have hil := inv_length zs
    refine ⟨_, fun h => if h = d then some (g, 0) else none, .own d 0 1 zs.length, Hp.emp.upd d (.cells (inv zs).length (cM iv 0 (inv zs))), rfl, ⟨hkeep, rfl, fun i a h => by simp [Fr.get] at h, fun h B hB => ?_, fun h q hn hq => ?_, fun h k q r hn hm _ _ _ => ?_, fun h l hl => (hp h l hl).elim⟩, ?_, by rw [hil], rfl⟩
    · obtain ⟨rfl, rfl⟩ := upd_some hB
      simp only [if_true]
      refine ⟨cur, _, hgb, by omega, fun i hi => ?_⟩
      have hlt : i < cur.size := by omega
      refine ⟨cur[i], by simp [hlt], ?_⟩
      have h5 := congrArg (fun l : List Value => l[i]?) hc4
      simp only [Nat.mul_one] at h5
      rw [List.getElem?_take_of_lt (by omega), List.getElem?_map] at h5
      have h6 : (inv zs)[i]? = some ((inv zs).getD i 0) := by
        rw [List.getElem?_eq_getElem hi, List.getD_eq_getElem?_getD, List.getElem?_eq_getElem hi]; rfl
      rw [h6] at h5
      simp only [Array.getElem?_toList, Option.map_some] at h5
      rw [Array.getElem?_eq_getElem hlt] at h5
      simp only [Option.some.injEq] at h5
      exact h5
    · by_cases hd : h = d
      · simp only [hd, if_true, Option.some.injEq] at hq
        subst hq
        exact hS _ hg
      · simp [hd] at hq
    · have hd1 : h = d := Classical.byContradiction fun hc => hn (by simp [Hp.upd, hc, Hp.emp])
      have hd2 : k = d := Classical.byContradiction fun hc => hm (by simp [Hp.upd, hc, Hp.emp])
      rw [hd1, hd2]
    · simp only [Rd, if_true]
      exact ⟨_, cap', rfl, hc1, hc2, rfl, rfl, fun _ => rfl, cur, _, hgb, by omega⟩
end Go.Proofs.Ytfgblelbhlpfjaa
