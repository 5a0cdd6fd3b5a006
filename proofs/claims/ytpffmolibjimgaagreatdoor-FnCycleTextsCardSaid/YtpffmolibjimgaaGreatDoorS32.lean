import Derived.Test.YtpffmolibjimgaaGreatDoorS31
import Derived.Test.YtpffmolibjimgaaGreatDoorS3
import Derived.Test.YtpffmolibjimgaaGreatDoorS26
/- Cycles of the reference: ParseCycles, exactly. -/
section
namespace Go.Proofs.YtpffmolibjimgaaGreatDoor
open Go.Av
set_option linter.unusedSimpArgs false
set_option linter.unusedVariables false
attribute [local irreducible] AWP CallG Ob Br BrP Go.Av.Sub endQ AOps OpV AC thenA blkA opsVC opVC withA withArgs opsQ opQ CallQ withA2 withArgs2
open Go.Pm (idn)
/-- A part without its opening parenthesis. -/
def pcB (i : Nat) (part : ByteArray) : Option ByteArray := if 0 < i then (if part.size = 0 ∨ (part.data.toList.getD 0 0).toNat ≠ 40 then none else some (part.extract 1 part.size)) else some part
/-- The row behind k parts. -/
def pcK (ps : List ByteArray) (L : List Int) : Nat → Option (List Int)
  | 0 => some L
  | k + 1 => match pcK ps L k with
    | none => none
    | some M => match pcB k (ps.getD k ByteArray.empty) with
      | none => none
      | some q => if pcOk M.length (splitP q 32) then some (pcF M q) else none
theorem pcF_len (L : List Int) (w : ByteArray) : (pcF L w).length = L.length := by
  unfold pcF; split
  · exact pcR_len _ _ _
  · rfl
theorem pcK_len (ps : List ByteArray) (L : List Int) : ∀ k M, pcK ps L k = some M → M.length = L.length
  | 0, M, h => by cases h; rfl
  | k + 1, M, h => by
    unfold pcK at h
    split at h
    · cases h
    · rename_i M' e
      have h1 := pcK_len ps L k M' e
      split at h
      · cases h
      · split at h
        · cases h; rw [pcF_len]; exact h1
        · cases h
theorem pcK_none {ps : List ByteArray} {L : List Int} {k : Nat} (h : pcK ps L k = none) : ∀ d, pcK ps L (k + d) = none
  | 0 => h
  | d + 1 => by
    have ih := pcK_none h d
    show pcK ps L (k + d + 1) = none
    unfold pcK
    rw [ih]
/-- What ParseCycles answers. -/
def pcsP (n : Int) (s : ByteArray) : List Int × Bool :=
  if ¬ (1 ≤ n ∧ n ≤ 20) ∨ s.size < 2 ∨ 200 < s.size ∨ (s.data.toList.getD 0 0).toNat ≠ 40 ∨ (s.data.toList.getD (s.size - 1) 0).toNat ≠ 41 then ([], false)
  else match (if s.toList = (⟨#[40, 41]⟩ : ByteArray).toList then some (idn n.toNat) else pcK (splitP (s.extract 1 (s.size - 1)) 41) (idn n.toNat) (splitP (s.extract 1 (s.size - 1)) 41).length) with
    | none => ([], false)
    | some M => if (fcP M).toList = s.toList then (M, true) else ([], false)
/-- How it lies. -/
def pcsA (r : List Int × Bool) : AV := .tup 2 (vecF [ints r.1, .v (.bool (r.2))])
set_option maxHeartbeats 1000000 in
theorem specParseCycles_ok (n : Int) (s : ByteArray) (hs : s.size ≤ 1000) : AC Tryz.prog 21 [.v (.int .i64 (n)), .v (.string (s))] Hp.emp (fun _ => false) (retV (pcsA (pcsP n s))) := by
  have hex : ∀ a b, (s.extract a b).size ≤ s.size := fun a b => by rw [ByteArray.size_extract]; omega
  have hex := Hold.mk hex
  have hid := Hold.mk (fun h : 1 ≤ n ∧ n ≤ 20 => by
    have := specIdentity_ok n.toNat (by omega) 38
    rwa [show ((n.toNat : Nat) : Int) = n by omega, ← idn_marks] at this : 1 ≤ n ∧ n ≤ 20 → AC Tryz.prog 56 [.v (.int .i64 (n))] Hp.emp (fun _ => false) (retI 38 (idn n.toNat)))
  have hil := Go.Pm.idn_length n.toNat
  obtain ⟨t, et⟩ : ∃ t, t = s.extract (Int.toNat 1) (((s.size : Nat) : Int) - 1).toNat := ⟨_, rfl⟩
  have htl : t.size ≤ s.size := by rw [et]; exact hex.h _ _
  have hsp := splitText_ok t 41 (by omega)
  obtain ⟨hpl, hpr⟩ := splitP_prop t 41
  obtain ⟨ps, eps⟩ : ∃ ps, ps = splitP t 41 := ⟨_, rfl⟩
  rw [← eps] at hsp hpl hpr
  have hpr := Hold.mk hpr
  have hno : (¬ (1 ≤ n ∧ n ≤ 20) ∨ s.size < 2 ∨ 200 < s.size ∨ (s.data.toList.getD 0 0).toNat ≠ 40 ∨ (s.data.toList.getD (s.size - 1) 0).toNat ≠ 41) → pcsP n s = ([], false) := fun h => if_pos h
  have hno := Hold.mk hno
  refine ac_of_awp (N := ⟨_, fun _ => false, fun _ _ => rfl, true⟩) Tryz.func21 rfl (by kernel_rfl) Tryz.ntmps21 (by simp) ?_
  simp only [argsFr, List.zipIdx_cons, List.zipIdx_nil, go_sem]
  repeat' (first | refine awp_seqK fun K hK => ?_ | (refine awp_regionK 1247001056807904283198451 rfl ?_; simp only [List.map_cons, List.map_nil]; simp (maxSteps := 1000000) (dsimp := false) (implicitDefEqProofs := false) (disch := omega) only [wrap64, go_sem, Int.toNat_zero, et.symm]) | (refine awp_regionQK 1247001056807904283198451 (by kernel_rfl) (by kernel_rfl) (by kernel_rfl) ?_; simp only [List.map_cons, List.map_nil]; simp (maxSteps := 1000000) (dsimp := false) (implicitDefEqProofs := false) (disch := omega) only [wrap64, go_sem, Int.toNat_zero, et.symm]) | refine awp_block ?_ | (refine awp_skip ?_; simp only [go_sem, Int.toNat_zero, et.symm]) | (refine awp_exit ?_; simp only [go_sem, Int.toNat_zero, et.symm]) | (refine awp_ret ?_; try simp only [go_sem, Int.toNat_zero, et.symm]) | (refine awp_condP rfl ?_; try simp only [go_sem, Int.toNat_zero, et.symm]) | (refine BrP.mk (fun h => ?_) (fun h => ?_) <;> try simp (dsimp := false) (disch := omega) only [wrap64]) | (refine Br.mk (fun h => ?_) (fun h => ?_) <;> try simp (dsimp := false) (disch := omega) only [wrap64]) | refine Ob.mk (by first | omega | (intro _ _; rfl) | trivial | (intros; trivial) | assumption | (intro i hi; have h0 : i = 0 := (by omega); subst h0; first | rfl | trivial) | (intro i hi; have h0 : i = 0 ∨ i = 1 := (by omega); rcases h0 with rfl | rfl <;> rfl) | (intro i hi; have h0 : i = 0 ∨ i = 1 ∨ i = 2 := (by omega); rcases h0 with rfl | rfl | rfl <;> rfl)) ?_ | ((first | ((first | refine atF (f := 55) ?_ | refine atQ (f := 55) ?_); (first | (refine cV (hac := inRange_ok _ _ _) (hK := ?_)) | (refine cQV (hac := inRange_ok _ _ _) (hK := ?_)))) | (refine cI (hac := hid.h (by omega)) (hK := ?_)) | (refine cQI (hac := hid.h (by omega)) (hK := ?_)) | (refine cR (hac := hsp) (hK := ?_)) | (refine cQR (hac := hsp) (hK := ?_))); simp (maxSteps := 1000000) (dsimp := false) (implicitDefEqProofs := false) (disch := omega) only [wrap64, go_sem, Int.toNat_zero, et.symm]) | apply_assumption -exfalso -symm)
  all_goals (first | (show endQ _ _ _ _ _ _ _; (repeat (rename (∀ (A : Fr) (H : Hp), AWP _ _ _ _ A H → _) => hK; clear hK)); (repeat (rename (Fr → Hp → Prop) => K; clear K))) | (show Exists _; (repeat (rename (∀ (A : Fr) (H : Hp), AWP _ _ _ _ A H → _) => hK; clear hK)); (repeat (rename (Fr → Hp → Prop) => K; clear K))) | skip)
  iterate 2
    · rw [hno.h (by first | exact .inr (.inl (by omega)) | exact .inr (.inr (.inl (by omega))))]
      exact end_T2 rfl (by decide) rfl rfl (fits_I rfl trivial rfl rfl) (.refl _)
  · have hz1 : ((s.size : Int) - 1).toNat = s.size - 1 := by omega
    have hgo : pcsP n s = match (if s.toList = (⟨#[40, 41]⟩ : ByteArray).toList then some (idn n.toNat) else pcK ps (idn n.toNat) ps.length) with
        | none => ([], false)
        | some M => if (fcP M).toList = s.toList then (M, true) else ([], false) := by
      have e2 : s.extract 1 (s.size - 1) = t := by rw [et, hz1]; rfl
      unfold pcsP
      rw [if_neg (by
        rintro (h | h | h | h | h)
        · exact h (by assumption)
        · omega
        · omega
        · omega
        · have h41 : ((s.data.toList.getD ((s.size : Int) - 1).toNat 0).toNat : Int) = 41 := by assumption
          rw [hz1] at h41; omega), e2, ← eps]
    have hgo := Hold.mk hgo
    refine awp_loop (ι := Nat × List Int) (fun z => [(8, .v (.int .i64 ((z.1 : Nat)))), (7, strs ps), (6, .own 38 0 1 z.2.length), (1, .v (.string (s)))]) (fun z => Hp.emp.upd 38 (.cells z.2.length (cM iv 0 z.2))) (fun z => z.1 ≤ ps.length ∧ (z.2.length ≤ 20 ∧ Hold (pcK ps (idn n.toNat) z.1 = some z.2)) ∧ Hold (0 < z.1 → ¬ s.toList = (⟨#[40, 41]⟩ : ByteArray).toList)) (fun z => ps.length - z.1) (0, idn n.toNat) ⟨Nat.zero_le _, ⟨by dsimp only; omega, ⟨rfl⟩⟩, ⟨fun h => absurd h (Nat.lt_irrefl 0)⟩⟩ (Sub.toL (by simp only [go_sem] <;> first | trivial | (simp only [Option.some.injEq, AV.v.injEq, AV.own.injEq, AV.list.injEq, Value.int.injEq, Value.bool.injEq, true_and, and_true]; first | omega | (simp; done)) | (simp; done) | (simp; omega)) (Hp.le_refl _)) ?_
    rintro ⟨k, L⟩ ⟨hk, ⟨hL, hpk⟩, hnz⟩
    dsimp only at hk hL hpk hnz ⊢
    have hp1 := hpr.h k
    have hpB : pcB k (ps.getD k ByteArray.empty) = if 0 < k then (if (ps.getD k ByteArray.empty).size = 0 ∨ ((ps.getD k ByteArray.empty).data.toList.getD 0 0).toNat ≠ 40 then none else some ((ps.getD k ByteArray.empty).extract 1 (ps.getD k ByteArray.empty).size)) else some (ps.getD k ByteArray.empty) := rfl
    have hsk : pcK ps (idn n.toNat) (k + 1) = match pcB k (ps.getD k ByteArray.empty) with
        | none => none
        | some q => if pcOk L.length (splitP q 32) then some (pcF L q) else none := by
      show (match pcK ps (idn n.toNat) k with | none => none | some M => _) = _
      rw [hpk.h]
    obtain ⟨w, ew⟩ : ∃ w, w = ps.getD k ByteArray.empty := ⟨_, rfl⟩
    rw [← ew] at hp1 hpB hsk
    obtain ⟨v, evv⟩ : ∃ v, v = w.extract (Int.toNat 1) w.size := ⟨_, rfl⟩
    have evv2 : w.extract 1 w.size = v := by rw [evv]; rfl
    rw [evv2] at hpB
    have hp2 : v.size ≤ 1000 := by rw [evv, ByteArray.size_extract]; omega
    have hl1 := pcF_len L w
    have hl2 := pcF_len L v
    have hpB := Hold.mk hpB
    have hsk := Hold.mk hsk
    have hF : pcK ps (idn n.toNat) (k + 1) = none → k < ps.length → ¬ s.toList = (⟨#[40, 41]⟩ : ByteArray).toList → pcsP n s = ([], false) := fun h1 h2 h3 => by
      have h4 := pcK_none h1 (ps.length - (k + 1))
      rw [show k + 1 + (ps.length - (k + 1)) = ps.length by omega] at h4
      rw [hgo.h, if_neg h3, h4]
    have hE : (¬ k < ps.length ∨ s.toList = (⟨#[40, 41]⟩ : ByteArray).toList) → pcsP n s = if (fcP L).toList = s.toList then (L, true) else ([], false) := fun h1 => by
      rw [hgo.h]
      by_cases h3 : s.toList = (⟨#[40, 41]⟩ : ByteArray).toList
      · have hk0 : k = 0 := Nat.eq_zero_of_not_pos fun hp => hnz.h hp h3
        have h5 := hpk.h
        rw [hk0] at h5
        have h5 : idn n.toNat = L := Option.some.inj h5
        rw [if_pos h3, h5]
      · have hk1 : k = ps.length := by
          rcases h1 with h1 | h1
          · omega
          · exact absurd h1 h3
        have h5 := hpk.h
        rw [hk1] at h5
        rw [if_neg h3, h5]
    have hF := Hold.mk hF
    have hE := Hold.mk hE
    clear hgo
    repeat' (first | refine awp_seqK fun K hK => ?_ | (refine awp_regionK 1247001056807904283198451 rfl ?_; simp only [List.map_cons, List.map_nil]; simp (maxSteps := 1000000) (dsimp := false) (implicitDefEqProofs := false) (disch := omega) only [wrap64, go_sem, Int.toNat_zero, ew.symm, evv.symm]) | (refine awp_regionQK 1247001056807904283198451 (by kernel_rfl) (by kernel_rfl) (by kernel_rfl) ?_; simp only [List.map_cons, List.map_nil]; simp (maxSteps := 1000000) (dsimp := false) (implicitDefEqProofs := false) (disch := omega) only [wrap64, go_sem, Int.toNat_zero, ew.symm, evv.symm]) | refine awp_block ?_ | (refine awp_skip ?_; simp only [go_sem, Int.toNat_zero, ew.symm, evv.symm]) | (refine awp_exit ?_; simp only [go_sem, Int.toNat_zero, ew.symm, evv.symm]) | (refine awp_ret ?_; try simp only [go_sem, Int.toNat_zero, ew.symm, evv.symm]) | (refine awp_condP rfl ?_; try simp only [go_sem, Int.toNat_zero, ew.symm, evv.symm]) | (refine BrP.mk (fun h => ?_) (fun h => ?_) <;> try simp (dsimp := false) (disch := omega) only [wrap64]) | (refine Br.mk (fun h => ?_) (fun h => ?_) <;> try simp (dsimp := false) (disch := omega) only [wrap64]) | refine Ob.mk (by first | omega | (intro _ _; rfl) | trivial | (intros; trivial) | assumption | (intro i hi; have h0 : i = 0 := (by omega); subst h0; first | rfl | trivial) | (intro i hi; have h0 : i = 0 ∨ i = 1 := (by omega); rcases h0 with rfl | rfl <;> rfl) | (intro i hi; have h0 : i = 0 ∨ i = 1 ∨ i = 2 := (by omega); rcases h0 with rfl | rfl | rfl <;> rfl)) ?_ | ((first | ((first | refine atF (f := 58) ?_ | refine atQ (f := 58) ?_); (first | (refine cM' (hac := parseCycle_ok L w hL (by omega) 38) (hK := ?_)))) | ((first | refine atF (f := 58) ?_ | refine atQ (f := 58) ?_); (first | (refine cM' (hac := parseCycle_ok L v hL hp2 38) (hK := ?_)))) | ((first | refine atF (f := 15) ?_ | refine atQ (f := 15) ?_); (refine cV (hfit := .cons (fits_I rfl trivial rfl rfl) .nil) (hac := formatCycles_ok L) (hK := ?_)))); simp (maxSteps := 1000000) (dsimp := false) (implicitDefEqProofs := false) (disch := omega) only [wrap64, go_sem, Int.toNat_zero, ew.symm, evv.symm]) | apply_assumption -exfalso -symm)
    all_goals (first | (show endQ _ _ _ _ _ _ _; (repeat (rename (∀ (A : Fr) (H : Hp), AWP _ _ _ _ A H → _) => hK; clear hK)); (repeat (rename (Fr → Hp → Prop) => K; clear K))) | (show Exists _; (repeat (rename (∀ (A : Fr) (H : Hp), AWP _ _ _ _ A H → _) => hK; clear hK)); (repeat (rename (Fr → Hp → Prop) => K; clear K))) | skip)
    · rw [hE.h (.inr (by assumption)), if_pos (by assumption)]
      exact end_T2 rfl (by decide) rfl rfl (fits_I rfl trivial rfl rfl) (.refl _)
    · rw [hE.h (.inr (by assumption)), if_neg (by assumption)]
      exact end_T2 rfl (by decide) rfl rfl (fits_I rfl trivial rfl rfl) (.refl _)
    · rw [hF.h (by rw [hsk.h, hpB.h, if_pos (by omega), if_pos (.inl (by omega))]) (by omega) (by assumption)]
      exact end_T2 rfl (by decide) rfl rfl (fits_I rfl trivial rfl rfl) (.refl _)
    · refine ⟨(k + 1, pcF L v), ⟨by dsimp only; omega, ⟨by dsimp only; omega, ⟨?_⟩⟩, ⟨fun _ => by assumption⟩⟩, by dsimp only; omega, by dsimp only; rw [hl2]; exact Sub.toL (by simp only [go_sem] <;> first | trivial | (simp only [Option.some.injEq, AV.v.injEq, AV.own.injEq, AV.list.injEq, Value.int.injEq, Value.bool.injEq, true_and, and_true]; first | omega | (simp; done)) | (simp; done) | (simp; omega)) (Hp.le_refl _)⟩
      dsimp only
      rw [hsk.h, hpB.h, if_pos (by omega), if_neg (by omega)]
      exact if_pos (by assumption)
    · rw [hF.h (by rw [hsk.h, hpB.h, if_pos (by omega), if_neg (by omega)]; exact if_neg (by assumption)) (by omega) (by assumption)]
      exact end_T2 rfl (by decide) rfl rfl (fits_I rfl trivial rfl rfl) (.refl _)
    · rw [hF.h (by rw [hsk.h, hpB.h, if_pos (by omega), if_pos (.inr (by omega))]) (by omega) (by assumption)]
      exact end_T2 rfl (by decide) rfl rfl (fits_I rfl trivial rfl rfl) (.refl _)
    · refine ⟨(k + 1, pcF L w), ⟨by dsimp only; omega, ⟨by dsimp only; omega, ⟨?_⟩⟩, ⟨fun _ => by assumption⟩⟩, by dsimp only; omega, by dsimp only; rw [hl1]; exact Sub.toL (by simp only [go_sem] <;> first | trivial | (simp only [Option.some.injEq, AV.v.injEq, AV.own.injEq, AV.list.injEq, Value.int.injEq, Value.bool.injEq, true_and, and_true]; first | omega | (simp; done)) | (simp; done) | (simp; omega)) (Hp.le_refl _)⟩
      dsimp only
      rw [hsk.h, hpB.h, if_neg (by omega)]
      exact if_pos (by assumption)
    · rw [hF.h (by rw [hsk.h, hpB.h, if_neg (by omega)]; exact if_neg (by assumption)) (by omega) (by assumption)]
      exact end_T2 rfl (by decide) rfl rfl (fits_I rfl trivial rfl rfl) (.refl _)
    · rw [hE.h (.inl (by omega)), if_pos (by assumption)]
      exact end_T2 rfl (by decide) rfl rfl (fits_I rfl trivial rfl rfl) (.refl _)
    · rw [hE.h (.inl (by omega)), if_neg (by assumption)]
      exact end_T2 rfl (by decide) rfl rfl (fits_I rfl trivial rfl rfl) (.refl _)
  · have hz1 : ((s.size : Int) - 1).toNat = s.size - 1 := by omega
    have h41 : ¬ ((s.data.toList.getD ((s.size : Int) - 1).toNat 0).toNat : Int) = 41 := by assumption
    rw [hz1] at h41
    rw [hno.h (.inr (.inr (.inr (.inr (by omega)))))]
    exact end_T2 rfl (by decide) rfl rfl (fits_I rfl trivial rfl rfl) (.refl _)
  · rw [hno.h (.inr (.inr (.inr (.inl (by omega)))))]
    exact end_T2 rfl (by decide) rfl rfl (fits_I rfl trivial rfl rfl) (.refl _)
  · rw [hno.h (.inl (by assumption))]
    exact end_T2 rfl (by decide) rfl rfl (fits_I rfl trivial rfl rfl) (.refl _)
end Go.Proofs.YtpffmolibjimgaaGreatDoor
end
/- Texts of the program: joinNumbers, formatCycles, FormatCycles, FormatImages. -/
section
namespace Go.Proofs.YtpffmolibjimgaaGreatDoor
open Go.Av
set_option linter.unusedSimpArgs false
set_option linter.unusedVariables false
attribute [local irreducible] AWP CallG Ob Br BrP Go.Av.Sub endQ AOps OpV AC thenA blkA opsVC opVC withA withArgs opsQ opQ CallQ withA2 withArgs2
open Go.Pm (Pm cycs)
theorem baL_ext {a : List UInt8} {b : ByteArray} (h : a = b.data.toList) : baL a = b := by
  subst h
  unfold baL
  simp
theorem decDigits_three {i : Nat} (h1 : ¬ i < 100) (h2 : i < 1000) : Lib.decDigits i = [UInt8.ofNat (48 + i / 100), UInt8.ofNat (48 + i / 10 % 10), UInt8.ofNat (48 + i % 10)] := by
  rw [Lib.decDigits, dif_neg (by omega), Lib.decDigits_two (by omega) (by omega), show i / 10 / 10 = i / 100 by omega]
  rfl
theorem fm_all : ∀ i : Fin 1000, (fmS i.val).data.toList = if i.val < 10 then [UInt8.ofNat (48 + i.val)] else if i.val < 100 then [UInt8.ofNat (48 + i.val / 10), UInt8.ofNat (48 + i.val % 10)] else [UInt8.ofNat (48 + i.val / 100), UInt8.ofNat (48 + i.val / 10 % 10), UInt8.ofNat (48 + i.val % 10)] := by decide +kernel
theorem itS_fm (v : Int) (h : 0 ≤ v ∧ v < 1000) : itS v = fmS v.toNat := by
  have h1 := fm_all ⟨v.toNat, by omega⟩
  dsimp only at h1
  refine baL_ext ?_
  rw [h1]
  unfold Lib.itoa
  rw [if_neg (by omega)]
  split
  · exact Lib.decDigits_one (by assumption)
  · split
    · exact Lib.decDigits_two (by assumption) (by assumption)
    · exact decDigits_three (by assumption) (by omega)
theorem jnS_nt (sep : ByteArray) (ws : List ByteArray) : ∀ k, Go.Nt.jnS sep ws k = jnS sep ws k
  | 0 => rfl
  | k + 1 => by
    unfold Go.Nt.jnS jnS
    rw [jnS_nt sep ws k]
theorem fisP_jn (xs : List Int) : Go.Nt.jn (fisS xs xs.length) = fisP xs := by
  unfold Go.Nt.jn fisP
  rw [jnS_nt, fisS_len xs (Nat.le_refl _)]
/-- The row of texts when k numbers are laid. -/
def jnR (xs : List Int) (k : Nat) : List ByteArray := fisS xs k ++ List.replicate (xs.length - k) ⟨#[]⟩
theorem jnR_len (xs : List Int) {k : Nat} (h : k ≤ xs.length) : (jnR xs k).length = xs.length := by unfold jnR; rw [List.length_append, fisS_len xs h, List.length_replicate]; omega
theorem jnR_set (xs : List Int) {k : Nat} (h : k < xs.length) : (jnR xs k).set k (fmS (xs.getD k 0).toNat) = jnR xs (k + 1) := by
  have h1 := fisS_len xs (Nat.le_of_lt h)
  unfold jnR
  rw [fisS_succ xs h, List.set_append_right _ _ (by omega), h1, Nat.sub_self, show xs.length - k = (xs.length - (k + 1)) + 1 by omega, List.replicate_succ, List.set_cons_zero, List.append_assoc]
  rfl
theorem jnR_all (xs : List Int) : jnR xs xs.length = fisS xs xs.length := by unfold jnR; simp
theorem setF_sv (xs : List ByteArray) (i : Nat) (x : ByteArray) (h : i < xs.length) : setF (cM sv ByteArray.empty xs) i (.v (.string (x))) = cM sv ByteArray.empty (xs.set i x) := setF_cM sv ByteArray.empty xs i x h
set_option maxHeartbeats 1000000 in
theorem joinNumbers_ok (xs : List Int) (hl : xs.length ≤ 1000) (hx : ∀ j, j < xs.length → 0 ≤ xs.getD j 0 ∧ xs.getD j 0 < 1000) : AC Tryz.prog 41 [ints xs, .v (.string (⟨#[32]⟩))] Hp.emp (fun _ => false) (retV (.v (.string (fisP xs)))) := by
  have hjn := join_ok (fisS xs xs.length) (by rw [fisS_len xs (Nat.le_refl _)]; omega) (by
    rw [fisP_jn]
    have h1 := jnS_size ⟨#[32]⟩ (fisS xs xs.length) 1000 (fisS_row xs xs.length) xs.length
    have h2 : (⟨#[32]⟩ : ByteArray).size = 1 := rfl
    rw [h2] at h1
    have h3 : xs.length * (1000 + 1) ≤ 1000 * 1001 := Nat.mul_le_mul hl (Nat.le_refl _)
    unfold fisP; omega)
  rw [fisP_jn, ← jnR_all] at hjn
  have hjn := Hold.mk hjn
  have hx := Hold.mk hx
  refine ac_of_awp (N := ⟨_, fun _ => false, fun _ _ => rfl, true⟩) Tryz.func41 rfl (by kernel_rfl) Tryz.ntmps41 (by simp) ?_
  simp only [argsFr, List.zipIdx_cons, List.zipIdx_nil, go_sem]
  repeat' (first | refine awp_seqK fun K hK => ?_ | (refine awp_regionK 30963 rfl ?_; simp only [List.map_cons, List.map_nil]; simp (maxSteps := 1000000) (dsimp := false) (implicitDefEqProofs := false) (disch := omega) only [wrap64, go_sem]) | (refine awp_regionQK 30963 (by kernel_rfl) (by kernel_rfl) (by kernel_rfl) ?_; simp only [List.map_cons, List.map_nil]; simp (maxSteps := 1000000) (dsimp := false) (implicitDefEqProofs := false) (disch := omega) only [wrap64, go_sem]) | refine awp_block ?_ | (refine awp_skip ?_; simp only [go_sem]) | (refine awp_exit ?_; simp only [go_sem]) | (refine awp_ret ?_; try simp only [go_sem]) | (refine awp_condP rfl ?_; try simp only [go_sem]) | (refine BrP.mk (fun h => ?_) (fun h => ?_) <;> try simp (dsimp := false) (disch := omega) only [wrap64]) | (refine Br.mk (fun h => ?_) (fun h => ?_) <;> try simp (dsimp := false) (disch := omega) only [wrap64]) | refine Ob.mk (by first | omega | (intro _ _; rfl) | trivial | (intros; trivial) | assumption | (intro i hi; have h0 : i = 0 := (by omega); subst h0; first | rfl | trivial) | (intro i hi; have h0 : i = 0 ∨ i = 1 := (by omega); rcases h0 with rfl | rfl <;> rfl) | (intro i hi; have h0 : i = 0 ∨ i = 1 ∨ i = 2 := (by omega); rcases h0 with rfl | rfl | rfl <;> rfl)) ?_ | apply_assumption -exfalso -symm)
  all_goals (first | (show endQ _ _ _ _ _ _ _; (repeat (rename (∀ (A : Fr) (H : Hp), AWP _ _ _ _ A H → _) => hK; clear hK)); (repeat (rename (Fr → Hp → Prop) => K; clear K))) | (show Exists _; (repeat (rename (∀ (A : Fr) (H : Hp), AWP _ _ _ _ A H → _) => hK; clear hK)); (repeat (rename (Fr → Hp → Prop) => K; clear K))) | skip)
  refine awp_loop (ι := Nat) (fun k => [(13, .v (.int .i64 ((k : Nat)))), (12, .v (.int .i64 (xs.length))), (11, .list false 1 (xs).length (cM iv 0 (xs))), (5, .own 10 0 1 xs.length), (1, .v (.string (⟨#[32]⟩)))]) (fun k => Hp.emp.upd 10 (.cells xs.length (cM sv ByteArray.empty (jnR xs k)))) (fun k => k ≤ xs.length) (fun k => xs.length - k) 0 (Nat.zero_le _) ?_ ?_
  · have e0 : Blk.cells xs.length (zF [.string ⟨#[]⟩]) = .cells xs.length (cM sv ByteArray.empty (jnR xs 0)) := by
      congr 1
      have e1 : jnR xs 0 = List.replicate xs.length (⟨#[]⟩ : ByteArray) := rfl
      rw [e1]
      funext i
      unfold zF cM
      by_cases hi : i < xs.length
      · simp [List.getD_eq_getElem?_getD, hi, sv, Nat.mod_one]
      · simp [List.getD_eq_getElem?_getD, hi, sv, Nat.mod_one]; rfl
    rw [e0]
    exact Sub.toL (by simp only [go_sem] <;> first | trivial | (simp only [Option.some.injEq, AV.v.injEq, AV.own.injEq, AV.list.injEq, Value.int.injEq, Value.bool.injEq, true_and, and_true]; first | omega | (simp; done)) | (simp; done) | (simp; omega)) (by (repeat' (first | exact Hp.le_emp _ | exact Hp.le_refl _ | refine Hp.le_upd ?_ ?_)); all_goals (first | rfl | (simp only [go_sem]; first | rfl | (refine cellsE ?_ ?_ <;> (simp)) | (simp))))
  intro k hk
  have h1 := jnR_len xs hk
  have h2 := hx.h k
  have h3 := Hold.mk (fun h : k < xs.length => decimal_ok (xs.getD k 0) (by have := h2 h; unfold r64; omega))
  have h4 := fun h : k < xs.length => itS_fm _ (h2 h)
  repeat' (first | refine awp_seqK fun K hK => ?_ | (refine awp_regionK 30963 rfl ?_; simp only [List.map_cons, List.map_nil]; simp (maxSteps := 1000000) (dsimp := false) (implicitDefEqProofs := false) (disch := omega) only [wrap64, go_sem]) | (refine awp_regionQK 30963 (by kernel_rfl) (by kernel_rfl) (by kernel_rfl) ?_; simp only [List.map_cons, List.map_nil]; simp (maxSteps := 1000000) (dsimp := false) (implicitDefEqProofs := false) (disch := omega) only [wrap64, go_sem]) | refine awp_block ?_ | (refine awp_skip ?_; simp only [go_sem]) | (refine awp_exit ?_; simp only [go_sem]) | (refine awp_ret ?_; try simp only [go_sem]) | (refine awp_condP rfl ?_; try simp only [go_sem]) | (refine BrP.mk (fun h => ?_) (fun h => ?_) <;> try simp (dsimp := false) (disch := omega) only [wrap64]) | (refine Br.mk (fun h => ?_) (fun h => ?_) <;> try simp (dsimp := false) (disch := omega) only [wrap64]) | refine Ob.mk (by first | omega | (intro _ _; rfl) | trivial | (intros; trivial) | assumption | (intro i hi; have h0 : i = 0 := (by omega); subst h0; first | rfl | trivial) | (intro i hi; have h0 : i = 0 ∨ i = 1 := (by omega); rcases h0 with rfl | rfl <;> rfl) | (intro i hi; have h0 : i = 0 ∨ i = 1 ∨ i = 2 := (by omega); rcases h0 with rfl | rfl | rfl <;> rfl)) ?_ | ((first | (refine cV (hac := h3.h (by omega)) (hK := ?_)) | (refine cQV (hac := h3.h (by omega)) (hK := ?_)) | ((first | refine atF (f := 76) ?_ | refine atQ (f := 76) ?_); ((obtain rfl : k = xs.length := by omega); refine cV (hfit := .cons (fits_S rfl trivial (by omega)) (.cons (.refl _) .nil)) (hac := hjn.h) (hK := ?_)))); simp (maxSteps := 1000000) (dsimp := false) (implicitDefEqProofs := false) (disch := omega) only [wrap64, go_sem]) | apply_assumption -exfalso -symm)
  all_goals (first | (show endQ _ _ _ _ _ _ _; (repeat (rename (∀ (A : Fr) (H : Hp), AWP _ _ _ _ A H → _) => hK; clear hK)); (repeat (rename (Fr → Hp → Prop) => K; clear K))) | (show Exists _; (repeat (rename (∀ (A : Fr) (H : Hp), AWP _ _ _ _ A H → _) => hK; clear hK)); (repeat (rename (Fr → Hp → Prop) => K; clear K))) | skip)
  · refine ⟨k + 1, by omega, by omega, ?_⟩
    rw [h4 (by omega), setF_sv _ _ _ (by omega), jnR_set xs (by omega)]
    exact Sub.toL (by simp only [go_sem] <;> first | trivial | (simp only [Option.some.injEq, AV.v.injEq, AV.own.injEq, AV.list.injEq, Value.int.injEq, Value.bool.injEq, true_and, and_true]; first | omega | (simp; done)) | (simp; done) | (simp; omega)) (by (repeat' (first | exact Hp.le_emp _ | exact Hp.le_refl _ | refine Hp.le_upd ?_ ?_)); all_goals (first | rfl | (simp only [go_sem]; first | rfl | (refine cellsE ?_ ?_ <;> (simp)) | (simp))))
  · exact end_retV rfl rfl
theorem ap_par (a b c d : ByteArray) : a ++ (b ++ c ++ d) = a ++ b ++ c ++ d := by
  simp only [ByteArray.append_assoc]
/-- The text of a permutation's cycles. -/
def fcT (cs : List (List Int)) : ByteArray := if (fcS cs cs.length).toList = (⟨#[]⟩ : ByteArray).toList then ⟨#[40, 41]⟩ else fcS cs cs.length
theorem fcP_eq {p : List Int} (h : isPerm p) : fcP p = fcT (cycs p) := by
  unfold fcP fcT cyP
  simp only [if_pos h]
theorem cyP_eq {p : List Int} (h : isPerm p) : cyP p = cycs p := if_pos h
theorem implFormat_ok (p : List Int) (hok : isPerm p) : AC Tryz.prog 40 [ints p] Hp.emp (fun _ => false) (retV (.v (.string (fcP p)))) := by
  obtain ⟨hn, hp⟩ := (isPerm_pm p).1 hok
  have hcy := implCycles_ok p.length p hp hn.2
  obtain ⟨hcl, hcr⟩ := cyP_prop p
  rw [fcP_eq hok]
  unfold fcT
  rw [← cyP_eq hok] at hcy ⊢
  obtain ⟨cs, ecs⟩ : ∃ cs, cs = cyP p := ⟨_, rfl⟩
  rw [← ecs] at hcy hcl hcr ⊢
  have hfs := fcS_size cs fun j => (hcr j).1
  have hfs := Hold.mk hfs
  have hcr := Hold.mk hcr
  refine ac_of_awp (N := ⟨_, fun _ => false, fun _ _ => rfl, true⟩) Tryz.func40 rfl (by kernel_rfl) Tryz.ntmps40 (by simp) ?_
  simp only [argsFr, List.zipIdx_cons, List.zipIdx_nil, go_sem]
  repeat' (first | refine awp_seqK fun K hK => ?_ | (refine awp_regionK 2099117 rfl ?_; simp only [List.map_cons, List.map_nil]; simp (maxSteps := 1000000) (dsimp := false) (implicitDefEqProofs := false) (disch := omega) only [wrap64, go_sem]) | (refine awp_regionQK 2099117 (by kernel_rfl) (by kernel_rfl) (by kernel_rfl) ?_; simp only [List.map_cons, List.map_nil]; simp (maxSteps := 1000000) (dsimp := false) (implicitDefEqProofs := false) (disch := omega) only [wrap64, go_sem]) | refine awp_block ?_ | (refine awp_skip ?_; simp only [go_sem]) | (refine awp_exit ?_; simp only [go_sem]) | (refine awp_ret ?_; try simp only [go_sem]) | (refine awp_condP rfl ?_; try simp only [go_sem]) | (refine BrP.mk (fun h => ?_) (fun h => ?_) <;> try simp (dsimp := false) (disch := omega) only [wrap64]) | (refine Br.mk (fun h => ?_) (fun h => ?_) <;> try simp (dsimp := false) (disch := omega) only [wrap64]) | refine Ob.mk (by first | omega | (intro _ _; rfl) | trivial | (intros; trivial) | assumption | (intro i hi; have h0 : i = 0 := (by omega); subst h0; first | rfl | trivial) | (intro i hi; have h0 : i = 0 ∨ i = 1 := (by omega); rcases h0 with rfl | rfl <;> rfl) | (intro i hi; have h0 : i = 0 ∨ i = 1 ∨ i = 2 := (by omega); rcases h0 with rfl | rfl | rfl <;> rfl)) ?_ | ((first | (refine cR (hac := hcy) (hK := ?_)) | (refine cQR (hac := hcy) (hK := ?_))); simp (maxSteps := 1000000) (dsimp := false) (implicitDefEqProofs := false) (disch := omega) only [wrap64, go_sem]) | apply_assumption -exfalso -symm)
  all_goals (first | (show endQ _ _ _ _ _ _ _; (repeat (rename (∀ (A : Fr) (H : Hp), AWP _ _ _ _ A H → _) => hK; clear hK)); (repeat (rename (Fr → Hp → Prop) => K; clear K))) | (show Exists _; (repeat (rename (∀ (A : Fr) (H : Hp), AWP _ _ _ _ A H → _) => hK; clear hK)); (repeat (rename (Fr → Hp → Prop) => K; clear K))) | skip)
  refine awp_loop (ι := Nat) (fun k => [(9, .v (.int .i64 ((k : Nat)))), (8, .v (.int .i64 (cs.length))), (7, .list false 1 (cs).length (cM ints [] (cs))), (3, .v (.string (fcS cs k)))]) (fun k => Hp.emp) (fun k => k ≤ cs.length) (fun k => cs.length - k) 0 ?_ (Sub.toL (by simp only [go_sem] <;> first | trivial | (simp only [Option.some.injEq, AV.v.injEq, AV.own.injEq, AV.list.injEq, Value.int.injEq, Value.bool.injEq, true_and, and_true]; first | omega | (simp [fcS]; done)) | (simp [fcS]; done) | (simp [fcS]; omega)) (by (repeat' (first | exact Hp.le_emp _ | exact Hp.le_refl _ | refine Hp.le_upd ?_ ?_)); all_goals (first | rfl | (simp only [go_sem]; first | rfl | (refine cellsE ?_ ?_ <;> (simp [fcS])) | (simp [fcS]))))) ?_
  · exact Nat.zero_le _
  intro k hk
  have h1 := hfs.h k
  have h2 := (hcr.h k).1
  have h3 := Hold.mk (joinNumbers_ok (cs.getD k []) (by omega) (hcr.h k).2)
  have h4 := fisP_size (cs.getD k []) h2
  have e1 : (⟨#[40]⟩ : ByteArray).size = 1 := rfl
  have e2 : (⟨#[41]⟩ : ByteArray).size = 1 := rfl
  have e5 : fcS cs (k + 1) = fcS cs k ++ ((⟨#[40]⟩ : ByteArray) ++ fisP (cs.getD k []) ++ ⟨#[41]⟩) := (ap_par _ _ _ _).symm
  repeat' (first | refine awp_seqK fun K hK => ?_ | (refine awp_regionK 2099117 rfl ?_; simp only [List.map_cons, List.map_nil]; simp (maxSteps := 1000000) (dsimp := false) (implicitDefEqProofs := false) (disch := omega) only [wrap64, go_sem, ByteArray.size_append]) | (refine awp_regionQK 2099117 (by kernel_rfl) (by kernel_rfl) (by kernel_rfl) ?_; simp only [List.map_cons, List.map_nil]; simp (maxSteps := 1000000) (dsimp := false) (implicitDefEqProofs := false) (disch := omega) only [wrap64, go_sem, ByteArray.size_append]) | refine awp_block ?_ | (refine awp_skip ?_; simp only [go_sem, ByteArray.size_append]) | (refine awp_exit ?_; simp only [go_sem, ByteArray.size_append]) | (refine awp_ret ?_; try simp only [go_sem, ByteArray.size_append]) | (refine awp_condP rfl ?_; try simp only [go_sem, ByteArray.size_append]) | (refine BrP.mk (fun h => ?_) (fun h => ?_) <;> try simp (dsimp := false) (disch := omega) only [wrap64]) | (refine Br.mk (fun h => ?_) (fun h => ?_) <;> try simp (dsimp := false) (disch := omega) only [wrap64]) | refine Ob.mk (by first | omega | (intro _ _; rfl) | trivial | (intros; trivial) | assumption | (intro i hi; have h0 : i = 0 := (by omega); subst h0; first | rfl | trivial) | (intro i hi; have h0 : i = 0 ∨ i = 1 := (by omega); rcases h0 with rfl | rfl <;> rfl) | (intro i hi; have h0 : i = 0 ∨ i = 1 ∨ i = 2 := (by omega); rcases h0 with rfl | rfl | rfl <;> rfl)) ?_ | ((first | (refine cV (hac := h3.h) (hK := ?_)) | (refine cQV (hac := h3.h) (hK := ?_))); simp (maxSteps := 1000000) (dsimp := false) (implicitDefEqProofs := false) (disch := omega) only [wrap64, go_sem, ByteArray.size_append]) | apply_assumption -exfalso -symm)
  all_goals (first | (show endQ _ _ _ _ _ _ _; (repeat (rename (∀ (A : Fr) (H : Hp), AWP _ _ _ _ A H → _) => hK; clear hK)); (repeat (rename (Fr → Hp → Prop) => K; clear K))) | (show Exists _; (repeat (rename (∀ (A : Fr) (H : Hp), AWP _ _ _ _ A H → _) => hK; clear hK)); (repeat (rename (Fr → Hp → Prop) => K; clear K))) | skip)
  · refine ⟨k + 1, by omega, by omega, ?_⟩
    rw [e5]
    exact Sub.toL (by simp only [go_sem] <;> first | trivial | (simp only [Option.some.injEq, AV.v.injEq, AV.own.injEq, AV.list.injEq, Value.int.injEq, Value.bool.injEq, true_and, and_true]; first | omega | (simp; done)) | (simp; done) | (simp; omega)) (Hp.le_refl _)
  · have e : k = cs.length := by omega
    subst e
    exact end_retV' rfl rfl (by rw [if_pos (by assumption)])
  · have e : k = cs.length := by omega
    subst e
    exact end_retV' rfl rfl (by rw [if_neg (by assumption)])
theorem implFormatCycles_ok (p : List Int) : AC Tryz.prog 13 [ints p] Hp.emp (fun _ => false) (retV (.v (.string (fcP p)))) := by
  by_cases hok : isPerm p
  · have hd : decide (isPerm p) = true := decide_eq_true hok
    have hf := implFormat_ok p hok
    refine ac_of_awp (N := ⟨_, fun _ => false, fun _ _ => rfl, true⟩) Tryz.func13 rfl (by kernel_rfl) Tryz.ntmps13 (by simp) ?_
    simp only [argsFr, List.zipIdx_cons, List.zipIdx_nil, go_sem]
    repeat' (first | refine awp_seqK fun K hK => ?_ | (refine awp_regionK 37 rfl ?_; simp only [List.map_cons, List.map_nil]; simp (maxSteps := 1000000) (dsimp := false) (implicitDefEqProofs := false) (disch := omega) only [wrap64, go_sem, hd]) | (refine awp_regionQK 37 (by kernel_rfl) (by kernel_rfl) (by kernel_rfl) ?_; simp only [List.map_cons, List.map_nil]; simp (maxSteps := 1000000) (dsimp := false) (implicitDefEqProofs := false) (disch := omega) only [wrap64, go_sem, hd]) | refine awp_block ?_ | (refine awp_skip ?_; simp only [go_sem, hd]) | (refine awp_exit ?_; simp only [go_sem, hd]) | (refine awp_ret ?_; try simp only [go_sem, hd]) | (refine awp_condP rfl ?_; try simp only [go_sem, hd]) | (refine BrP.mk (fun h => ?_) (fun h => ?_) <;> try simp (dsimp := false) (disch := omega) only [wrap64]) | (refine Br.mk (fun h => ?_) (fun h => ?_) <;> try simp (dsimp := false) (disch := omega) only [wrap64]) | refine Ob.mk (by first | omega | (intro _ _; rfl) | trivial | (intros; trivial) | assumption | (intro i hi; have h0 : i = 0 := (by omega); subst h0; first | rfl | trivial) | (intro i hi; have h0 : i = 0 ∨ i = 1 := (by omega); rcases h0 with rfl | rfl <;> rfl) | (intro i hi; have h0 : i = 0 ∨ i = 1 ∨ i = 2 := (by omega); rcases h0 with rfl | rfl | rfl <;> rfl)) ?_ | ((first | ((first | refine atF (f := 39) ?_ | refine atQ (f := 39) ?_); (first | (refine cV (hac := implIsPermutation_ok p) (hK := ?_)) | (refine cQV (hac := implIsPermutation_ok p) (hK := ?_)))) | (refine cV (hac := hf) (hK := ?_)) | (refine cQV (hac := hf) (hK := ?_))); simp (maxSteps := 1000000) (dsimp := false) (implicitDefEqProofs := false) (disch := omega) only [wrap64, go_sem, hd]) | apply_assumption -exfalso -symm)
    all_goals (first | (show endQ _ _ _ _ _ _ _; (repeat (rename (∀ (A : Fr) (H : Hp), AWP _ _ _ _ A H → _) => hK; clear hK)); (repeat (rename (Fr → Hp → Prop) => K; clear K))) | (show Exists _; (repeat (rename (∀ (A : Fr) (H : Hp), AWP _ _ _ _ A H → _) => hK; clear hK)); (repeat (rename (Fr → Hp → Prop) => K; clear K))) | skip)
    exact end_retV rfl rfl
  · have hd : decide (isPerm p) = false := decide_eq_false hok
    rw [show fcP p = ⟨#[]⟩ from if_neg hok]
    refine ac_of_awp (N := ⟨_, fun _ => false, fun _ _ => rfl, true⟩) Tryz.func13 rfl (by kernel_rfl) Tryz.ntmps13 (by simp) ?_
    simp only [argsFr, List.zipIdx_cons, List.zipIdx_nil, go_sem]
    repeat' (first | refine awp_seqK fun K hK => ?_ | (refine awp_regionK 37 rfl ?_; simp only [List.map_cons, List.map_nil]; simp (maxSteps := 1000000) (dsimp := false) (implicitDefEqProofs := false) (disch := omega) only [wrap64, go_sem, hd]) | (refine awp_regionQK 37 (by kernel_rfl) (by kernel_rfl) (by kernel_rfl) ?_; simp only [List.map_cons, List.map_nil]; simp (maxSteps := 1000000) (dsimp := false) (implicitDefEqProofs := false) (disch := omega) only [wrap64, go_sem, hd]) | refine awp_block ?_ | (refine awp_skip ?_; simp only [go_sem, hd]) | (refine awp_exit ?_; simp only [go_sem, hd]) | (refine awp_ret ?_; try simp only [go_sem, hd]) | (refine awp_condP rfl ?_; try simp only [go_sem, hd]) | (refine BrP.mk (fun h => ?_) (fun h => ?_) <;> try simp (dsimp := false) (disch := omega) only [wrap64]) | (refine Br.mk (fun h => ?_) (fun h => ?_) <;> try simp (dsimp := false) (disch := omega) only [wrap64]) | refine Ob.mk (by first | omega | (intro _ _; rfl) | trivial | (intros; trivial) | assumption | (intro i hi; have h0 : i = 0 := (by omega); subst h0; first | rfl | trivial) | (intro i hi; have h0 : i = 0 ∨ i = 1 := (by omega); rcases h0 with rfl | rfl <;> rfl) | (intro i hi; have h0 : i = 0 ∨ i = 1 ∨ i = 2 := (by omega); rcases h0 with rfl | rfl | rfl <;> rfl)) ?_ | ((first | ((first | refine atF (f := 39) ?_ | refine atQ (f := 39) ?_); (first | (refine cV (hac := implIsPermutation_ok p) (hK := ?_)) | (refine cQV (hac := implIsPermutation_ok p) (hK := ?_))))); simp (maxSteps := 1000000) (dsimp := false) (implicitDefEqProofs := false) (disch := omega) only [wrap64, go_sem, hd]) | apply_assumption -exfalso -symm)
    all_goals (first | (show endQ _ _ _ _ _ _ _; (repeat (rename (∀ (A : Fr) (H : Hp), AWP _ _ _ _ A H → _) => hK; clear hK)); (repeat (rename (Fr → Hp → Prop) => K; clear K))) | (show Exists _; (repeat (rename (∀ (A : Fr) (H : Hp), AWP _ _ _ _ A H → _) => hK; clear hK)); (repeat (rename (Fr → Hp → Prop) => K; clear K))) | skip)
    exact end_retV rfl rfl
/-- What FormatImages answers. -/
def fimP (p : List Int) : ByteArray := if isPerm p then fisP p else ⟨#[]⟩
theorem perm_rng {p : List Int} (h : isPerm p) : p.length ≤ 20 ∧ ∀ j, j < p.length → 0 ≤ p.getD j 0 ∧ p.getD j 0 < 1000 := by
  refine ⟨h.1.2, fun j hj => ?_⟩
  have h1 := (h.2 j hj).1
  have h2 := h.1.2
  omega
theorem implFormatImages_ok (p : List Int) : AC Tryz.prog 14 [ints p] Hp.emp (fun _ => false) (retV (.v (.string (fimP p)))) := by
  by_cases hok : isPerm p
  · have hd : decide (isPerm p) = true := decide_eq_true hok
    have hf := joinNumbers_ok p (by have := (perm_rng hok).1; omega) (perm_rng hok).2
    rw [show fimP p = fisP p from if_pos hok]
    refine ac_of_awp (N := ⟨_, fun _ => false, fun _ _ => rfl, true⟩) Tryz.func14 rfl (by kernel_rfl) Tryz.ntmps14 (by simp) ?_
    simp only [argsFr, List.zipIdx_cons, List.zipIdx_nil, go_sem]
    repeat' (first | refine awp_seqK fun K hK => ?_ | (refine awp_regionK 37 rfl ?_; simp only [List.map_cons, List.map_nil]; simp (maxSteps := 1000000) (dsimp := false) (implicitDefEqProofs := false) (disch := omega) only [wrap64, go_sem, hd]) | (refine awp_regionQK 37 (by kernel_rfl) (by kernel_rfl) (by kernel_rfl) ?_; simp only [List.map_cons, List.map_nil]; simp (maxSteps := 1000000) (dsimp := false) (implicitDefEqProofs := false) (disch := omega) only [wrap64, go_sem, hd]) | refine awp_block ?_ | (refine awp_skip ?_; simp only [go_sem, hd]) | (refine awp_exit ?_; simp only [go_sem, hd]) | (refine awp_ret ?_; try simp only [go_sem, hd]) | (refine awp_condP rfl ?_; try simp only [go_sem, hd]) | (refine BrP.mk (fun h => ?_) (fun h => ?_) <;> try simp (dsimp := false) (disch := omega) only [wrap64]) | (refine Br.mk (fun h => ?_) (fun h => ?_) <;> try simp (dsimp := false) (disch := omega) only [wrap64]) | refine Ob.mk (by first | omega | (intro _ _; rfl) | trivial | (intros; trivial) | assumption | (intro i hi; have h0 : i = 0 := (by omega); subst h0; first | rfl | trivial) | (intro i hi; have h0 : i = 0 ∨ i = 1 := (by omega); rcases h0 with rfl | rfl <;> rfl) | (intro i hi; have h0 : i = 0 ∨ i = 1 ∨ i = 2 := (by omega); rcases h0 with rfl | rfl | rfl <;> rfl)) ?_ | ((first | ((first | refine atF (f := 39) ?_ | refine atQ (f := 39) ?_); (first | (refine cV (hac := implIsPermutation_ok p) (hK := ?_)) | (refine cQV (hac := implIsPermutation_ok p) (hK := ?_)))) | (refine cV (hac := hf) (hK := ?_)) | (refine cQV (hac := hf) (hK := ?_))); simp (maxSteps := 1000000) (dsimp := false) (implicitDefEqProofs := false) (disch := omega) only [wrap64, go_sem, hd]) | apply_assumption -exfalso -symm)
    all_goals (first | (show endQ _ _ _ _ _ _ _; (repeat (rename (∀ (A : Fr) (H : Hp), AWP _ _ _ _ A H → _) => hK; clear hK)); (repeat (rename (Fr → Hp → Prop) => K; clear K))) | (show Exists _; (repeat (rename (∀ (A : Fr) (H : Hp), AWP _ _ _ _ A H → _) => hK; clear hK)); (repeat (rename (Fr → Hp → Prop) => K; clear K))) | skip)
    exact end_retV rfl rfl
  · have hd : decide (isPerm p) = false := decide_eq_false hok
    rw [show fimP p = ⟨#[]⟩ from if_neg hok]
    refine ac_of_awp (N := ⟨_, fun _ => false, fun _ _ => rfl, true⟩) Tryz.func14 rfl (by kernel_rfl) Tryz.ntmps14 (by simp) ?_
    simp only [argsFr, List.zipIdx_cons, List.zipIdx_nil, go_sem]
    repeat' (first | refine awp_seqK fun K hK => ?_ | (refine awp_regionK 37 rfl ?_; simp only [List.map_cons, List.map_nil]; simp (maxSteps := 1000000) (dsimp := false) (implicitDefEqProofs := false) (disch := omega) only [wrap64, go_sem, hd]) | (refine awp_regionQK 37 (by kernel_rfl) (by kernel_rfl) (by kernel_rfl) ?_; simp only [List.map_cons, List.map_nil]; simp (maxSteps := 1000000) (dsimp := false) (implicitDefEqProofs := false) (disch := omega) only [wrap64, go_sem, hd]) | refine awp_block ?_ | (refine awp_skip ?_; simp only [go_sem, hd]) | (refine awp_exit ?_; simp only [go_sem, hd]) | (refine awp_ret ?_; try simp only [go_sem, hd]) | (refine awp_condP rfl ?_; try simp only [go_sem, hd]) | (refine BrP.mk (fun h => ?_) (fun h => ?_) <;> try simp (dsimp := false) (disch := omega) only [wrap64]) | (refine Br.mk (fun h => ?_) (fun h => ?_) <;> try simp (dsimp := false) (disch := omega) only [wrap64]) | refine Ob.mk (by first | omega | (intro _ _; rfl) | trivial | (intros; trivial) | assumption | (intro i hi; have h0 : i = 0 := (by omega); subst h0; first | rfl | trivial) | (intro i hi; have h0 : i = 0 ∨ i = 1 := (by omega); rcases h0 with rfl | rfl <;> rfl) | (intro i hi; have h0 : i = 0 ∨ i = 1 ∨ i = 2 := (by omega); rcases h0 with rfl | rfl | rfl <;> rfl)) ?_ | ((first | ((first | refine atF (f := 39) ?_ | refine atQ (f := 39) ?_); (first | (refine cV (hac := implIsPermutation_ok p) (hK := ?_)) | (refine cQV (hac := implIsPermutation_ok p) (hK := ?_))))); simp (maxSteps := 1000000) (dsimp := false) (implicitDefEqProofs := false) (disch := omega) only [wrap64, go_sem, hd]) | apply_assumption -exfalso -symm)
    all_goals (first | (show endQ _ _ _ _ _ _ _; (repeat (rename (∀ (A : Fr) (H : Hp), AWP _ _ _ _ A H → _) => hK; clear hK)); (repeat (rename (Fr → Hp → Prop) => K; clear K))) | (show Exists _; (repeat (rename (∀ (A : Fr) (H : Hp), AWP _ _ _ _ A H → _) => hK; clear hK)); (repeat (rename (Fr → Hp → Prop) => K; clear K))) | skip)
    exact end_retV rfl rfl
theorem specFormatImages_ok (p : List Int) : AC Tryz.prog 16 [ints p] Hp.emp (fun _ => false) (retV (.v (.string (fimP p)))) := by
  by_cases hok : isPerm p
  · have hd : decide (isPerm p) = true := decide_eq_true hok
    have hf := formatInts_ok p (by have := (perm_rng hok).1; omega) (perm_rng hok).2
    rw [show fimP p = fisP p from if_pos hok]
    refine ac_of_awp (N := ⟨_, fun _ => false, fun _ _ => rfl, true⟩) Tryz.func16 rfl (by kernel_rfl) Tryz.ntmps16 (by simp) ?_
    simp only [argsFr, List.zipIdx_cons, List.zipIdx_nil, go_sem]
    repeat' (first | refine awp_seqK fun K hK => ?_ | (refine awp_regionK 37 rfl ?_; simp only [List.map_cons, List.map_nil]; simp (maxSteps := 1000000) (dsimp := false) (implicitDefEqProofs := false) (disch := omega) only [wrap64, go_sem, hd]) | (refine awp_regionQK 37 (by kernel_rfl) (by kernel_rfl) (by kernel_rfl) ?_; simp only [List.map_cons, List.map_nil]; simp (maxSteps := 1000000) (dsimp := false) (implicitDefEqProofs := false) (disch := omega) only [wrap64, go_sem, hd]) | refine awp_block ?_ | (refine awp_skip ?_; simp only [go_sem, hd]) | (refine awp_exit ?_; simp only [go_sem, hd]) | (refine awp_ret ?_; try simp only [go_sem, hd]) | (refine awp_condP rfl ?_; try simp only [go_sem, hd]) | (refine BrP.mk (fun h => ?_) (fun h => ?_) <;> try simp (dsimp := false) (disch := omega) only [wrap64]) | (refine Br.mk (fun h => ?_) (fun h => ?_) <;> try simp (dsimp := false) (disch := omega) only [wrap64]) | refine Ob.mk (by first | omega | (intro _ _; rfl) | trivial | (intros; trivial) | assumption | (intro i hi; have h0 : i = 0 := (by omega); subst h0; first | rfl | trivial) | (intro i hi; have h0 : i = 0 ∨ i = 1 := (by omega); rcases h0 with rfl | rfl <;> rfl) | (intro i hi; have h0 : i = 0 ∨ i = 1 ∨ i = 2 := (by omega); rcases h0 with rfl | rfl | rfl <;> rfl)) ?_ | ((first | ((first | refine atF (f := 42) ?_ | refine atQ (f := 42) ?_); (first | (refine cV (hac := specIsPermutation_ok p) (hK := ?_)) | (refine cQV (hac := specIsPermutation_ok p) (hK := ?_)))) | (refine cV (hac := hf) (hK := ?_)) | (refine cQV (hac := hf) (hK := ?_))); simp (maxSteps := 1000000) (dsimp := false) (implicitDefEqProofs := false) (disch := omega) only [wrap64, go_sem, hd]) | apply_assumption -exfalso -symm)
    all_goals (first | (show endQ _ _ _ _ _ _ _; (repeat (rename (∀ (A : Fr) (H : Hp), AWP _ _ _ _ A H → _) => hK; clear hK)); (repeat (rename (Fr → Hp → Prop) => K; clear K))) | (show Exists _; (repeat (rename (∀ (A : Fr) (H : Hp), AWP _ _ _ _ A H → _) => hK; clear hK)); (repeat (rename (Fr → Hp → Prop) => K; clear K))) | skip)
    exact end_retV rfl rfl
  · have hd : decide (isPerm p) = false := decide_eq_false hok
    rw [show fimP p = ⟨#[]⟩ from if_neg hok]
    refine ac_of_awp (N := ⟨_, fun _ => false, fun _ _ => rfl, true⟩) Tryz.func16 rfl (by kernel_rfl) Tryz.ntmps16 (by simp) ?_
    simp only [argsFr, List.zipIdx_cons, List.zipIdx_nil, go_sem]
    repeat' (first | refine awp_seqK fun K hK => ?_ | (refine awp_regionK 37 rfl ?_; simp only [List.map_cons, List.map_nil]; simp (maxSteps := 1000000) (dsimp := false) (implicitDefEqProofs := false) (disch := omega) only [wrap64, go_sem, hd]) | (refine awp_regionQK 37 (by kernel_rfl) (by kernel_rfl) (by kernel_rfl) ?_; simp only [List.map_cons, List.map_nil]; simp (maxSteps := 1000000) (dsimp := false) (implicitDefEqProofs := false) (disch := omega) only [wrap64, go_sem, hd]) | refine awp_block ?_ | (refine awp_skip ?_; simp only [go_sem, hd]) | (refine awp_exit ?_; simp only [go_sem, hd]) | (refine awp_ret ?_; try simp only [go_sem, hd]) | (refine awp_condP rfl ?_; try simp only [go_sem, hd]) | (refine BrP.mk (fun h => ?_) (fun h => ?_) <;> try simp (dsimp := false) (disch := omega) only [wrap64]) | (refine Br.mk (fun h => ?_) (fun h => ?_) <;> try simp (dsimp := false) (disch := omega) only [wrap64]) | refine Ob.mk (by first | omega | (intro _ _; rfl) | trivial | (intros; trivial) | assumption | (intro i hi; have h0 : i = 0 := (by omega); subst h0; first | rfl | trivial) | (intro i hi; have h0 : i = 0 ∨ i = 1 := (by omega); rcases h0 with rfl | rfl <;> rfl) | (intro i hi; have h0 : i = 0 ∨ i = 1 ∨ i = 2 := (by omega); rcases h0 with rfl | rfl | rfl <;> rfl)) ?_ | ((first | ((first | refine atF (f := 42) ?_ | refine atQ (f := 42) ?_); (first | (refine cV (hac := specIsPermutation_ok p) (hK := ?_)) | (refine cQV (hac := specIsPermutation_ok p) (hK := ?_))))); simp (maxSteps := 1000000) (dsimp := false) (implicitDefEqProofs := false) (disch := omega) only [wrap64, go_sem, hd]) | apply_assumption -exfalso -symm)
    all_goals (first | (show endQ _ _ _ _ _ _ _; (repeat (rename (∀ (A : Fr) (H : Hp), AWP _ _ _ _ A H → _) => hK; clear hK)); (repeat (rename (Fr → Hp → Prop) => K; clear K))) | (show Exists _; (repeat (rename (∀ (A : Fr) (H : Hp), AWP _ _ _ _ A H → _) => hK; clear hK)); (repeat (rename (Fr → Hp → Prop) => K; clear K))) | skip)
    exact end_retV rfl rfl
end Go.Proofs.YtpffmolibjimgaaGreatDoor
end
/- Cycles of the program: ParseCycles, exactly. -/
section
namespace Go.Proofs.YtpffmolibjimgaaGreatDoor
open Go.Av
set_option linter.unusedSimpArgs false
set_option linter.unusedVariables false
attribute [local irreducible] AWP CallG Ob Br BrP Go.Av.Sub endQ AOps OpV AC thenA blkA opsVC opVC withA withArgs opsQ opQ CallQ withA2 withArgs2
open Go.Pm (idn)
/-- May the numbers be laid? -/
def icOk (n : Int) (xs : List Int) : Prop := ∀ j, j < xs.length → 0 ≤ xs.getD j 0 ∧ xs.getD j 0 ≤ n - 1
instance (n : Int) (xs : List Int) : Decidable (icOk n xs) := by unfold icOk; infer_instance
/-- The row behind k parts. -/
def icK (n : Int) (ps : List ByteArray) (L : List Int) : Nat → Option (List Int)
  | 0 => some L
  | k + 1 => match icK n ps L k with
    | none => none
    | some M => if (rnsP (slP (ps.getD k ByteArray.empty) ⟨#[32]⟩)).2 = true ∧ icOk n (rnsP (slP (ps.getD k ByteArray.empty) ⟨#[32]⟩)).1 then some (pcR M (rnsP (slP (ps.getD k ByteArray.empty) ⟨#[32]⟩)).1 (rnsP (slP (ps.getD k ByteArray.empty) ⟨#[32]⟩)).1.length) else none
theorem icK_none {n : Int} {ps : List ByteArray} {L : List Int} {k : Nat} (h : icK n ps L k = none) : ∀ d, icK n ps L (k + d) = none
  | 0 => h
  | d + 1 => by
    have ih := icK_none h d
    show icK n ps L (k + d + 1) = none
    unfold icK
    rw [ih]
/-- The parts of a text. -/
def icS (s : ByteArray) : List ByteArray := slP (tsP (tpP s ⟨#[40]⟩) ⟨#[41]⟩) ⟨#[41, 40]⟩
/-- What ParseCycles answers. -/
def icP (n : Int) (s : ByteArray) : List Int × Bool :=
  if ¬ (1 ≤ n ∧ n ≤ 20) ∨ 200 < s.size then ([], false)
  else if s.toList = (⟨#[40, 41]⟩ : ByteArray).toList then (idn n.toNat, true)
  else match icK n (icS s) (idn n.toNat) (icS s).length with
    | none => ([], false)
    | some M => if isPerm M ∧ (fcP M).toList = s.toList then (M, true) else ([], false)
theorem splitB_row (sep : ByteArray) : ∀ (k : Nat) (s w : ByteArray), w ∈ Lib.splitB sep 0 k s → w.size ≤ s.size
  | 0, s, w, h => by rw [Lib.splitB_zero, List.mem_singleton] at h; subst h; omega
  | k + 1, s, w, h => by
    unfold Lib.splitB at h
    split at h
    · rw [List.mem_singleton] at h; subst h; omega
    · rcases List.mem_cons.1 h with h | h
      · rw [h, ByteArray.size_extract]; omega
      · have := splitB_row sep k _ w h
        rw [ByteArray.size_extract] at this
        omega
theorem slP_row (s sep : ByteArray) (j : Nat) : ((slP s sep).getD j ByteArray.empty).size ≤ s.size := by
  by_cases hj : j < (slP s sep).length
  · refine splitB_row sep (Lib.countB s sep) s _ ?_
    show (slP s sep).getD j ByteArray.empty ∈ slP s sep
    rw [List.getD_eq_getElem?_getD, List.getElem?_eq_getElem hj]; exact List.getElem_mem hj
  · rw [List.getD_eq_getElem?_getD, List.getElem?_eq_none (by omega)]; exact Nat.zero_le _
theorem slP_le (s sep : ByteArray) (h : 1 ≤ sep.size) : (slP s sep).length ≤ s.size + 1 := by
  rw [slP_len s sep h]
  have := Lib.countB_le sep h s.size s (Nat.le_refl _)
  omega
theorem baL_size (l : List UInt8) : (baL l).size = l.length := by show l.toArray.size = _; simp
theorem tpP_le (s p : ByteArray) : (tpP s p).size ≤ s.size := by
  unfold tpP
  rw [baL_size]
  have := Lib.trimPrefix_le s.data.toList p.data.toList
  have e : s.data.toList.length = s.size := by simp
  omega
theorem tsP_le (s p : ByteArray) : (tsP s p).size ≤ s.size := by
  unfold tsP
  rw [baL_size]
  have := Lib.trimSuffix_le s.data.toList p.data.toList
  have e : s.data.toList.length = s.size := by simp
  omega
theorem pcClo_ok (x n : Int) (hn : 1 ≤ n ∧ n ≤ 20) : AC Tryz.prog 51 [.v (.int .i64 (x)), .ptr 1 (fun _ => .v (.int .i64 (n)))] Hp.emp (fun _ => false) (retV (.v (.bool (!decide (0 ≤ x ∧ x ≤ n - 1))))) := by
  refine ac_of_awp (N := ⟨_, fun _ => false, fun _ _ => rfl, true⟩) Tryz.func51 rfl (by kernel_rfl) Tryz.ntmps51 (by simp) ?_
  simp only [argsFr, List.zipIdx_cons, List.zipIdx_nil, go_sem]
  repeat' (first | refine awp_seqK fun K hK => ?_ | (refine awp_regionK 11 rfl ?_; simp only [List.map_cons, List.map_nil]; simp (maxSteps := 1000000) (dsimp := false) (implicitDefEqProofs := false) (disch := omega) only [wrap64, go_sem]) | (refine awp_regionQK 11 (by kernel_rfl) (by kernel_rfl) (by kernel_rfl) ?_; simp only [List.map_cons, List.map_nil]; simp (maxSteps := 1000000) (dsimp := false) (implicitDefEqProofs := false) (disch := omega) only [wrap64, go_sem]) | refine awp_block ?_ | (refine awp_skip ?_; simp only [go_sem]) | (refine awp_exit ?_; simp only [go_sem]) | (refine awp_ret ?_; try simp only [go_sem]) | (refine awp_condP rfl ?_; try simp only [go_sem]) | (refine BrP.mk (fun h => ?_) (fun h => ?_) <;> try simp (dsimp := false) (disch := omega) only [wrap64]) | (refine Br.mk (fun h => ?_) (fun h => ?_) <;> try simp (dsimp := false) (disch := omega) only [wrap64]) | refine Ob.mk (by first | omega | (intro _ _; rfl) | trivial | (intros; trivial) | assumption | (intro i hi; have h0 : i = 0 := (by omega); subst h0; first | rfl | trivial) | (intro i hi; have h0 : i = 0 ∨ i = 1 := (by omega); rcases h0 with rfl | rfl <;> rfl) | (intro i hi; have h0 : i = 0 ∨ i = 1 ∨ i = 2 := (by omega); rcases h0 with rfl | rfl | rfl <;> rfl)) ?_ | ((first | ((first | refine atF (f := 31) ?_ | refine atQ (f := 31) ?_); (first | (refine cV (hac := within_ok _ _ _) (hK := ?_)) | (refine cQV (hac := within_ok _ _ _) (hK := ?_))))); simp (maxSteps := 1000000) (dsimp := false) (implicitDefEqProofs := false) (disch := omega) only [wrap64, go_sem]) | apply_assumption -exfalso -symm)
  all_goals (first | (show endQ _ _ _ _ _ _ _; (repeat (rename (∀ (A : Fr) (H : Hp), AWP _ _ _ _ A H → _) => hK; clear hK)); (repeat (rename (Fr → Hp → Prop) => K; clear K))) | (show Exists _; (repeat (rename (∀ (A : Fr) (H : Hp), AWP _ _ _ _ A H → _) => hK; clear hK)); (repeat (rename (Fr → Hp → Prop) => K; clear K))) | skip)
  exact end_retV rfl rfl
theorem any_icOk (n : Int) (xs : List Int) : (xs.any fun x => !decide (0 ≤ x ∧ x ≤ n - 1)) = !decide (icOk n xs) := by
  rw [Bool.eq_iff_iff, List.any_eq_true]
  constructor
  · rintro ⟨x, hx, h⟩
    obtain ⟨i, hi, rfl⟩ := List.getElem_of_mem hx
    rw [Bool.not_eq_true', decide_eq_false_iff_not] at h ⊢
    intro h2
    have := h2 i hi
    rw [List.getD_eq_getElem?_getD, List.getElem?_eq_getElem hi] at this
    exact h this
  · intro h
    rw [Bool.not_eq_true', decide_eq_false_iff_not] at h
    refine Classical.byContradiction fun h2 => h fun j hj => Classical.byContradiction fun h3 => h2 ⟨xs[j], List.getElem_mem hj, ?_⟩
    rw [Bool.not_eq_true', decide_eq_false_iff_not]
    rwa [List.getD_eq_getElem?_getD, List.getElem?_eq_getElem hj] at h3
theorem rnsP_len (ws : List ByteArray) : (rnsP ws).1.length ≤ ws.length := by
  unfold rnsP
  split
  · simp
  · exact Nat.zero_le _
theorem pcsA_scrub (r : List Int × Bool) (q : Nat → Bool) : (pcsA r).scrub q = pcsA r := by
  unfold pcsA
  simp only [scrub_tup, scF_vecF, List.map_cons, List.map_nil]; rfl
set_option maxHeartbeats 2000000 in
theorem implParseCycles_ok (n : Int) (s : ByteArray) (hs : s.size ≤ 1000) (d : Nat) : AC Tryz.prog 17 [.v (.int .i64 (n)), .v (.string (s))] Hp.emp (fun _ => false) (retIB d (icP n s).1 (icP n s).2) := by
  have hid := Hold.mk (fun h : 1 ≤ n ∧ n ≤ 20 => by
    have := implIdentity_ok n.toNat (by omega) 38
    rwa [show ((n.toNat : Nat) : Int) = n by omega] at this : 1 ≤ n ∧ n ≤ 20 → AC Tryz.prog 45 [.v (.int .i64 (n))] Hp.emp (fun _ => false) (retI 38 (idn n.toNat)))
  have hil := Go.Pm.idn_length n.toNat
  have ht1 := trimPrefix_ok s ⟨#[40]⟩
  have hl1 := tpP_le s ⟨#[40]⟩
  obtain ⟨t, et⟩ : ∃ t, t = tpP s ⟨#[40]⟩ := ⟨_, rfl⟩
  rw [← et] at ht1 hl1
  have ht2 := trimSuffix_ok t ⟨#[41]⟩ (by omega)
  have hl2 := tsP_le t ⟨#[41]⟩
  obtain ⟨u, eu⟩ : ∃ u, u = tsP t ⟨#[41]⟩ := ⟨_, rfl⟩
  rw [← eu] at ht2 hl2
  have hsp := split_ok u ⟨#[41, 40]⟩ (by omega) (by decide)
  have hpl := slP_le u ⟨#[41, 40]⟩ (by decide)
  have hpr := slP_row u ⟨#[41, 40]⟩
  obtain ⟨ps, eps⟩ : ∃ ps, ps = slP u ⟨#[41, 40]⟩ := ⟨_, rfl⟩
  rw [← eps] at hsp hpl hpr
  have hpr := Hold.mk hpr
  have hno : (¬ (1 ≤ n ∧ n ≤ 20) ∨ 200 < s.size) → icP n s = ([], false) := fun h => if_pos h
  have hun : (1 ≤ n ∧ n ≤ 20) ∧ ¬ 200 < s.size → s.toList = (⟨#[40, 41]⟩ : ByteArray).toList → icP n s = (idn n.toNat, true) := fun h h2 => by
    unfold icP; rw [if_neg (by rintro (h3 | h3); exact h3 h.1; exact h.2 h3), if_pos h2]
  have hgo : (1 ≤ n ∧ n ≤ 20) ∧ ¬ 200 < s.size → ¬ s.toList = (⟨#[40, 41]⟩ : ByteArray).toList → icP n s = match icK n ps (idn n.toNat) ps.length with
    | none => ([], false)
    | some M => if isPerm M ∧ (fcP M).toList = s.toList then (M, true) else ([], false) := fun h h2 => by
    unfold icP icS
    rw [if_neg (by rintro (h3 | h3); exact h3 h.1; exact h.2 h3), if_neg h2, ← et, ← eu, ← eps]
  have hno := Hold.mk hno
  have hun := Hold.mk hun
  have hgo := Hold.mk hgo
  have ht1 := Hold.mk ht1
  have ht2 := Hold.mk ht2
  have hsp := Hold.mk hsp
  refine ac_of_awp (N := ⟨_, fun _ => false, fun _ _ => rfl, true⟩) Tryz.func17 rfl (by kernel_rfl) Tryz.ntmps17 (by simp) ?_
  simp only [argsFr, List.zipIdx_cons, List.zipIdx_nil, go_sem]
  repeat' (first | refine awp_seqK fun K hK => ?_ | (refine awp_regionK 75557868088784533331831 rfl ?_; simp only [List.map_cons, List.map_nil]; simp (maxSteps := 1000000) (dsimp := false) (implicitDefEqProofs := false) (disch := omega) only [wrap64, go_sem]) | (refine awp_regionQK 75557868088784533331831 (by kernel_rfl) (by kernel_rfl) (by kernel_rfl) ?_; simp only [List.map_cons, List.map_nil]; simp (maxSteps := 1000000) (dsimp := false) (implicitDefEqProofs := false) (disch := omega) only [wrap64, go_sem]) | refine awp_block ?_ | (refine awp_skip ?_; simp only [go_sem]) | (refine awp_exit ?_; simp only [go_sem]) | (refine awp_ret ?_; try simp only [go_sem]) | (refine awp_condP rfl ?_; try simp only [go_sem]) | (refine BrP.mk (fun h => ?_) (fun h => ?_) <;> try simp (dsimp := false) (disch := omega) only [wrap64]) | (refine Br.mk (fun h => ?_) (fun h => ?_) <;> try simp (dsimp := false) (disch := omega) only [wrap64]) | refine Ob.mk (by first | omega | (intro _ _; rfl) | trivial | (intros; trivial) | assumption | (intro i hi; have h0 : i = 0 := (by omega); subst h0; first | rfl | trivial) | (intro i hi; have h0 : i = 0 ∨ i = 1 := (by omega); rcases h0 with rfl | rfl <;> rfl) | (intro i hi; have h0 : i = 0 ∨ i = 1 ∨ i = 2 := (by omega); rcases h0 with rfl | rfl | rfl <;> rfl)) ?_ | ((first | ((first | refine atF (f := 31) ?_ | refine atQ (f := 31) ?_); (first | (refine cV (hac := within_ok _ _ _) (hK := ?_)) | (refine cQV (hac := within_ok _ _ _) (hK := ?_)))) | (refine cI (hac := hid.h (by omega)) (hK := ?_)) | (refine cQI (hac := hid.h (by omega)) (hK := ?_)) | ((first | refine atF (f := 48) ?_ | refine atQ (f := 48) ?_); (first | refine cV (hfit := .cons (.refl _) (.cons (.refl _) .nil)) (hac := ht1.h) (hK := ?_) | refine cQV (hfit := .cons (.refl _) (.cons (.refl _) .nil)) (hac := ht1.h) (hK := ?_))) | ((first | refine atF (f := 47) ?_ | refine atQ (f := 47) ?_); (first | refine cV (hfit := .cons (.refl _) (.cons (.refl _) .nil)) (hac := ht2.h) (hK := ?_) | refine cQV (hfit := .cons (.refl _) (.cons (.refl _) .nil)) (hac := ht2.h) (hK := ?_))) | (refine cR (hac := hsp.h) (hK := ?_)) | (refine cQR (hac := hsp.h) (hK := ?_))); simp (maxSteps := 1000000) (dsimp := false) (implicitDefEqProofs := false) (disch := omega) only [wrap64, go_sem]) | apply_assumption -exfalso -symm)
  all_goals (first | (show endQ _ _ _ _ _ _ _; (repeat (rename (∀ (A : Fr) (H : Hp), AWP _ _ _ _ A H → _) => hK; clear hK)); (repeat (rename (Fr → Hp → Prop) => K; clear K))) | (show Exists _; (repeat (rename (∀ (A : Fr) (H : Hp), AWP _ _ _ _ A H → _) => hK; clear hK)); (repeat (rename (Fr → Hp → Prop) => K; clear K))) | skip)
  · exact end_retIB_nil' rfl rfl rfl (by rw [hno.h (.inr (by omega))]) (by decide) rfl
  · exact end_retIB' rfl rfl rfl rfl (by rw [hun.h ⟨by assumption, by omega⟩ (by assumption)]) (by decide) rfl rfl
  · have hgo := Hold.mk (hgo.h ⟨by assumption, by omega⟩ (by assumption))
    clear hno hun ht1 ht2 hsp hid et eu eps
    refine awp_loop (ι := Nat × List Int) (fun z => [(31, .v (.int .i64 ((z.1 : Nat)))), (30, .v (.int .i64 (ps.length))), (29, strs ps), (6, .own 38 0 1 z.2.length), (2, .ref 2 0), (1, .v (.string (s)))]) (fun z => (Hp.emp.upd 2 (.cells 1 fun _ => .v (.int .i64 (n)))).upd 38 (.cells z.2.length (cM iv 0 z.2))) (fun z => z.1 ≤ ps.length ∧ (z.2.length = n.toNat ∧ Hold (icK n ps (idn n.toNat) z.1 = some z.2))) (fun z => ps.length - z.1) (0, idn n.toNat) ⟨Nat.zero_le _, hil, ⟨rfl⟩⟩ (Sub.toL (by simp only [go_sem] <;> first | trivial | (simp only [Option.some.injEq, AV.v.injEq, AV.own.injEq, AV.list.injEq, Value.int.injEq, Value.bool.injEq, true_and, and_true]; first | omega | (simp; done)) | (simp; done) | (simp; omega)) (Hp.le_refl _)) ?_
    rintro ⟨k, L⟩ ⟨hk, hL, hpk⟩
    dsimp only at hk hL hpk ⊢
    have hsk : icK n ps (idn n.toNat) (k + 1) = if (rnsP (slP (ps.getD k ByteArray.empty) ⟨#[32]⟩)).2 = true ∧ icOk n (rnsP (slP (ps.getD k ByteArray.empty) ⟨#[32]⟩)).1 then some (pcR L (rnsP (slP (ps.getD k ByteArray.empty) ⟨#[32]⟩)).1 (rnsP (slP (ps.getD k ByteArray.empty) ⟨#[32]⟩)).1.length) else none := by
      show (match icK n ps (idn n.toNat) k with | none => none | some M => _) = _
      rw [hpk.h]
    have hp1 := hpr.h k
    obtain ⟨w, ew⟩ : ∃ w, w = ps.getD k ByteArray.empty := ⟨_, rfl⟩
    rw [← ew] at hsk hp1
    have hss := split_ok w ⟨#[32]⟩ (by omega) (by decide)
    have hsl := slP_le w ⟨#[32]⟩ (by decide)
    have hsr := slP_row w ⟨#[32]⟩
    obtain ⟨ws, ews⟩ : ∃ ws, ws = slP w ⟨#[32]⟩ := ⟨_, rfl⟩
    rw [← ews] at hss hsl hsr hsk
    have hrn := readNumbers_ok ws (by omega) (fun j => by have := hsr j; omega)
    have hrl := rnsP_len ws
    obtain ⟨⟨xs, b⟩, exb⟩ : ∃ z, z = rnsP ws := ⟨_, rfl⟩
    rw [← exb] at hrn hrl hsk
    dsimp only at hrn hrl hsk
    have hcf := containsFuncI_ok xs 51 (.ptr 1 (fun _ => .v (.int .i64 (n)))) (fun x => !decide (0 ≤ x ∧ x ≤ n - 1)) (by omega) (fun j _ => pcClo_ok _ n (by assumption))
    rw [any_icOk] at hcf
    have hF : icK n ps (idn n.toNat) (k + 1) = none → k < ps.length → icP n s = ([], false) := fun h1 h2 => by
      have h4 := icK_none h1 (ps.length - (k + 1))
      rw [show k + 1 + (ps.length - (k + 1)) = ps.length by omega] at h4
      rw [hgo.h, h4]
    have hE : k = ps.length → icP n s = if isPerm L ∧ (fcP L).toList = s.toList then (L, true) else ([], false) := fun h1 => by
      rw [hgo.h, ← h1, hpk.h]
    have hF := Hold.mk hF
    have hE := Hold.mk hE
    have hcf := Hold.mk hcf
    have hrn := Hold.mk hrn
    have hss := Hold.mk hss
    have hsr := Hold.mk hsr
    have hsk := Hold.mk hsk
    have ew2 := ew.symm
    repeat' (first | refine awp_seqK fun K hK => ?_ | (refine awp_regionK 75557868088784533331831 rfl ?_; simp only [List.map_cons, List.map_nil]; simp (maxSteps := 1000000) (dsimp := false) (implicitDefEqProofs := false) (disch := omega) only [wrap64, go_sem, ew2]) | (refine awp_regionQK 75557868088784533331831 (by kernel_rfl) (by kernel_rfl) (by kernel_rfl) ?_; simp only [List.map_cons, List.map_nil]; simp (maxSteps := 1000000) (dsimp := false) (implicitDefEqProofs := false) (disch := omega) only [wrap64, go_sem, ew2]) | refine awp_block ?_ | (refine awp_skip ?_; simp only [go_sem, ew2]) | (refine awp_exit ?_; simp only [go_sem, ew2]) | (refine awp_ret ?_; try simp only [go_sem, ew2]) | (refine awp_condP rfl ?_; try simp only [go_sem, ew2]) | (refine BrP.mk (fun h => ?_) (fun h => ?_) <;> try simp (dsimp := false) (disch := omega) only [wrap64]) | (refine Br.mk (fun h => ?_) (fun h => ?_) <;> try simp (dsimp := false) (disch := omega) only [wrap64]) | refine Ob.mk (by first | omega | (intro _ _; rfl) | trivial | (intros; trivial) | assumption | (intro i hi; have h0 : i = 0 := (by omega); subst h0; first | rfl | trivial) | (intro i hi; have h0 : i = 0 ∨ i = 1 := (by omega); rcases h0 with rfl | rfl <;> rfl) | (intro i hi; have h0 : i = 0 ∨ i = 1 ∨ i = 2 := (by omega); rcases h0 with rfl | rfl | rfl <;> rfl)) ?_ | ((first | (refine cR (hac := hss.h) (hK := ?_)) | (refine cQR (hac := hss.h) (hK := ?_)) | ((first | refine atF (f := 49) ?_ | refine atQ (f := 49) ?_); (refine cR (hac := hrn.h) (hK := ?_) (hs := pcsA_scrub (xs, b) _))) | ((first | refine atF (f := 50) ?_ | refine atQ (f := 50) ?_); (first | refine cV (hfit := .cons (.refl _) (.cons (fits_clo1 (fits_ref1 rfl trivial (by decide) trivial)) .nil)) (hac := hcf.h) (hK := ?_) | refine cQV (hfit := .cons (.refl _) (.cons (fits_clo1 (fits_ref1 rfl trivial (by decide) trivial)) .nil)) (hac := hcf.h) (hK := ?_))) | ((first | refine atF (f := 39) ?_ | refine atQ (f := 39) ?_); (first | refine cV (hfit := .cons (fits_I rfl trivial rfl rfl) .nil) (hac := implIsPermutation_ok L) (hK := ?_) | refine cQV (hfit := .cons (fits_I rfl trivial rfl rfl) .nil) (hac := implIsPermutation_ok L) (hK := ?_))) | ((first | refine atF (f := 40) ?_ | refine atQ (f := 40) ?_); (first | refine cV (hfit := .cons (fits_I rfl trivial rfl rfl) .nil) (hac := implFormat_ok L (by assumption)) (hK := ?_) | refine cQV (hfit := .cons (fits_I rfl trivial rfl rfl) .nil) (hac := implFormat_ok L (by assumption)) (hK := ?_)))); simp (maxSteps := 1000000) (dsimp := false) (implicitDefEqProofs := false) (disch := omega) only [wrap64, go_sem, ew2]) | apply_assumption -exfalso -symm)
    all_goals (first | (show endQ _ _ _ _ _ _ _; (repeat (rename (∀ (A : Fr) (H : Hp), AWP _ _ _ _ A H → _) => hK; clear hK)); (repeat (rename (Fr → Hp → Prop) => K; clear K))) | (show Exists _; (repeat (rename (∀ (A : Fr) (H : Hp), AWP _ _ _ _ A H → _) => hK; clear hK)); (repeat (rename (Fr → Hp → Prop) => K; clear K))) | skip)
    · have hb : b = true := by assumption
      have hok : icOk n xs := by assumption
      have hsk := hsk.h
      rw [if_pos ⟨hb, hok⟩] at hsk
      clear hcf hrn hss hsr hgo hpk
      have hxr := Hold.mk hok
      have hsk := Hold.mk hsk
      refine awp_loop (ι := Nat) (fun j => [(50, .v (.int .i64 ((j : Nat)))), (49, .v (.int .i64 (xs.length))), (48, ints xs), (9, ints xs), (31, .v (.int .i64 ((k : Nat)))), (30, .v (.int .i64 (ps.length))), (29, strs ps), (6, .own 38 0 1 L.length), (2, .ref 2 0), (1, .v (.string (s)))]) (fun j => (Hp.emp.upd 2 (.cells 1 fun _ => .v (.int .i64 (n)))).upd 38 (.cells L.length (cM iv 0 (pcR L xs j)))) (fun j => j ≤ xs.length) (fun j => xs.length - j) 0 (Nat.zero_le _) (Sub.toL (by simp only [go_sem] <;> first | trivial | (simp only [Option.some.injEq, AV.v.injEq, AV.own.injEq, AV.list.injEq, Value.int.injEq, Value.bool.injEq, true_and, and_true]; first | omega | (simp; done)) | (simp; done) | (simp; omega)) (Hp.le_refl _)) ?_
      intro j hj
      have hrl2 := pcR_len L xs j
      have hsz : pcR L xs (j + 1) = (pcR L xs j).set (xs.getD j 0).toNat (xs.getD ((j + 1) % xs.length) 0) := rfl
      have hxj := fun h : j < xs.length => hxr.h j h
      have hmod : ((j : Nat) : Int) + 1 = ((j + 1 : Nat) : Int) := rfl
      have hmod2 : (((j : Nat) : Int) + 1).tmod ((xs.length : Nat) : Int) = (((j + 1) % xs.length : Nat) : Int) := rfl
      have hml : 0 < xs.length → (j + 1) % xs.length < xs.length := fun h => Nat.mod_lt _ h
      repeat' (first | (refine awp_regionEK (id := 15) 75557868088784533331831 14 (by kernel_rfl) (by kernel_rfl) (by kernel_rfl) ?_; simp only [List.map_cons, List.map_nil, opsE, List.take_succ_cons, List.take_zero, List.drop_succ_cons, List.drop_zero]; simp (maxSteps := 1000000) (dsimp := false) (implicitDefEqProofs := false) (disch := omega) only [wrap64, go_sem, hmod2]) | refine awp_seqK fun K hK => ?_ | (refine awp_regionK 75557868088784533331831 rfl ?_; simp only [List.map_cons, List.map_nil]; simp (maxSteps := 1000000) (dsimp := false) (implicitDefEqProofs := false) (disch := omega) only [wrap64, go_sem, hmod2]) | (refine awp_regionQK 75557868088784533331831 (by kernel_rfl) (by kernel_rfl) (by kernel_rfl) ?_; simp only [List.map_cons, List.map_nil]; simp (maxSteps := 1000000) (dsimp := false) (implicitDefEqProofs := false) (disch := omega) only [wrap64, go_sem, hmod2]) | refine awp_block ?_ | (refine awp_skip ?_; simp only [go_sem, hmod2]) | (refine awp_exit ?_; simp only [go_sem, hmod2]) | (refine awp_ret ?_; try simp only [go_sem, hmod2]) | (refine awp_condP rfl ?_; try simp only [go_sem, hmod2]) | (refine BrP.mk (fun h => ?_) (fun h => ?_) <;> try simp (dsimp := false) (disch := omega) only [wrap64]) | (refine Br.mk (fun h => ?_) (fun h => ?_) <;> try simp (dsimp := false) (disch := omega) only [wrap64]) | refine Ob.mk (by first | omega | (intro _ _; rfl) | trivial | (intros; trivial) | assumption | (intro i hi; have h0 : i = 0 := (by omega); subst h0; first | rfl | trivial) | (intro i hi; have h0 : i = 0 ∨ i = 1 := (by omega); rcases h0 with rfl | rfl <;> rfl) | (intro i hi; have h0 : i = 0 ∨ i = 1 ∨ i = 2 := (by omega); rcases h0 with rfl | rfl | rfl <;> rfl)) ?_ | apply_assumption -exfalso -symm)
      all_goals (first | (show endQ _ _ _ _ _ _ _; (repeat (rename (∀ (A : Fr) (H : Hp), AWP _ _ _ _ A H → _) => hK; clear hK)); (repeat (rename (Fr → Hp → Prop) => K; clear K))) | (show Exists _; (repeat (rename (∀ (A : Fr) (H : Hp), AWP _ _ _ _ A H → _) => hK; clear hK)); (repeat (rename (Fr → Hp → Prop) => K; clear K))) | skip)
      · refine ⟨j + 1, by omega, by omega, ?_⟩
        rw [hsz]
        exact Sub.toL (by simp only [go_sem] <;> first | trivial | (simp only [Option.some.injEq, AV.v.injEq, AV.own.injEq, AV.list.injEq, Value.int.injEq, Value.bool.injEq, true_and, and_true]; first | omega | (simp; done)) | (simp; done) | (simp; omega)) (by (repeat' (first | exact Hp.le_emp _ | exact Hp.le_refl _ | refine Hp.le_upd ?_ ?_)); all_goals (first | rfl | (simp only [go_sem]; first | rfl | (refine cellsE ?_ ?_ <;> (simp)) | (simp))))
      · have ej : j = xs.length := by omega
        subst ej
        refine ⟨(k + 1, pcR L xs xs.length), ⟨by dsimp only; omega, ⟨by dsimp only; omega, ⟨hsk.h⟩⟩⟩, by dsimp only; omega, ?_⟩
        dsimp only
        rw [hrl2]
        exact Sub.toL (by simp only [go_sem] <;> first | trivial | (simp only [Option.some.injEq, AV.v.injEq, AV.own.injEq, AV.list.injEq, Value.int.injEq, Value.bool.injEq, true_and, and_true]; first | omega | (simp; done)) | (simp; done) | (simp; omega)) (by (repeat' (first | exact Hp.le_emp _ | exact Hp.le_refl _ | refine Hp.le_upd ?_ ?_)); all_goals (first | rfl | (simp only [go_sem]; first | rfl | (refine cellsE ?_ ?_ <;> (simp)) | (simp))))
    · exact end_retIB_nil' rfl rfl rfl (by rw [hF.h (by rw [hsk.h, if_neg fun h2 => absurd h2.2 (by assumption)]) (by omega)]) (by decide) rfl
    · exact end_retIB_nil' rfl rfl rfl (by rw [hF.h (by rw [hsk.h, if_neg fun h2 => Bool.noConfusion (h2.1.symm.trans ‹b = false›)]) (by omega)]) (by decide) rfl
    · exact end_retIB' rfl rfl rfl rfl (by rw [hE.h (by omega), if_pos ⟨by assumption, by assumption⟩]) (by decide) rfl rfl
    · exact end_retIB_nil' rfl rfl rfl (by rw [hE.h (by omega), if_neg fun h2 => absurd h2.2 (by assumption)]) (by decide) rfl
    · exact end_retIB_nil' rfl rfl rfl (by rw [hE.h (by omega), if_neg fun h2 => absurd h2.1 (by assumption)]) (by decide) rfl
  · exact end_retIB_nil' rfl rfl rfl (by rw [hno.h (.inl (by assumption))]) (by decide) rfl
end Go.Proofs.YtpffmolibjimgaaGreatDoor
end
