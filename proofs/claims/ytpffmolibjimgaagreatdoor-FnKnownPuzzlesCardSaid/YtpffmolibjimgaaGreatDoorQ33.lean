import Derived.Test.YtpffmolibjimgaaGreatDoorQ32
import Derived.Test.YtpffmolibjimgaaGreatDoorQ30
import Derived.Test.YtpffmolibjimgaaGreatDoorQ3
import Derived.Test.YtpffmolibjimgaaGreatDoorQ10
import Derived.HandedShaped
import Derived.Lib.LaidU8
import Derived.Lib.LaidTab
import Derived.MakeChecks
import Derived.LaidLaws
import Derived.Shelf.Vars
/- The reference's known puzzles, exactly. -/
section
namespace Go.Proofs.YtpffmolibjimgaaGreatDoor
open Go.Av
set_option linter.unusedSimpArgs false
set_option linter.unusedVariables false
attribute [local irreducible] AWP CallG Ob Br BrP Go.Av.Sub endQ AOps OpV AC thenA blkA opsVC opVC withA withArgs opsQ opQ CallQ withA2 withArgs2
/-- The moves of a puzzle, parsed by the reference. -/
def sR (n : Int) (ws : List ByteArray) : List (List Int) := ws.map fun w => (pcsP n w).1
theorem sR_len (n : Int) (ws : List ByteArray) : (sR n ws).length = ws.length := by simp [sR]
theorem sR_succ (n : Int) (ws : List ByteArray) {t : Nat} (h : t < ws.length) : (sR n ws).take (t + 1) = (sR n ws).take t ++ [(pcsP n (ws.getD t ByteArray.empty)).1] := by
  unfold sR
  rw [List.take_add_one]
  congr 1
  rw [List.getElem?_map, List.getElem?_eq_getElem h, List.getD_eq_getElem?_getD, List.getElem?_eq_getElem h]
  rfl
def kpS8 (m : Nat) : ByteArray := (⟨#[65, 66, 67, 68, 69, 70, 71, 72]⟩ : ByteArray).extract 0 m
/-- What is held while a puzzle is made. -/
def skH (n : Int) (nm : ByteArray) (R : List (List Int)) : Nat → Hp
  | 0 => (Hp.emp.upd 4 (.cells 3 (vecF [iv 0, sv ⟨#[]⟩, .v (.slice none 0 0)]))).upd 5 (.cells 3 (vecF [iv n, sv nm, .v (.slice none 0 0)]))
  | t + 1 => ((Hp.emp.upd 4 (.cells 3 (vecF [iv 0, sv ⟨#[]⟩, .v (.slice none 0 0)]))).upd 5 (.cells 3 (vecF [iv n, sv nm, .own 33 0 1 (t + 1)]))).upd 33 (.cells (t + 1) (cM ints [] (R.take (t + 1))))
theorem puzzleOfX_ok (n : Int) (ws : List ByteArray) (b : Bool) (f : Nat → AV) (hf : ∀ i, i < ws.length → f i = .v (.string (ws.getD i ByteArray.empty))) (hn : r64 n) (hl : 1 ≤ ws.length ∧ ws.length ≤ 8) (hw : ∀ j, (ws.getD j ByteArray.empty).size ≤ 1000) : AC Tryz.prog 30 [.v (.int .i64 (n)), .list b 1 ws.length f] Hp.emp (fun _ => false) (retV (pz ⟨n, kpS8 ws.length, sR n ws⟩)) := by
  have hw := Hold.mk hw
  have h8 : (⟨#[65, 66, 67, 68, 69, 70, 71, 72]⟩ : ByteArray).size = 8 := rfl
  have hRs := Hold.mk (fun (t : Nat) (h : t < ws.length) => sR_succ n ws h)
  have hRl := sR_len n ws
  obtain ⟨R, eR⟩ : ∃ R, R = sR n ws := ⟨_, rfl⟩
  rw [← eR] at hRs hRl ⊢
  obtain ⟨nm, enm⟩ : ∃ nm, nm = kpS8 ws.length := ⟨_, rfl⟩
  rw [← enm]
  refine ac_of_awp (N := ⟨_, fun _ => false, fun _ _ => rfl, true⟩) Tryz.func30 rfl (by kernel_rfl) Tryz.ntmps30 (by simp) ?_
  simp only [argsFr, List.zipIdx_cons, List.zipIdx_nil, go_sem]
  repeat' (first | refine awp_seqK fun K hK => ?_ | (refine awp_regionK 131315 rfl ?_; simp only [List.map_cons, List.map_nil]; simp (maxSteps := 1000000) (dsimp := false) (implicitDefEqProofs := false) (disch := omega) only [wrap64, go_sem, h8]) | (refine awp_regionQK 131315 (by kernel_rfl) (by kernel_rfl) (by kernel_rfl) ?_; simp only [List.map_cons, List.map_nil]; simp (maxSteps := 1000000) (dsimp := false) (implicitDefEqProofs := false) (disch := omega) only [wrap64, go_sem, h8]) | refine awp_block ?_ | (refine awp_skip ?_; simp only [go_sem, h8]) | (refine awp_exit ?_; simp only [go_sem, h8]) | (refine awp_ret ?_; try simp only [go_sem, h8]) | (refine awp_condP rfl ?_; try simp only [go_sem, h8]) | (refine BrP.mk (fun h => ?_) (fun h => ?_) <;> try simp (dsimp := false) (disch := omega) only [wrap64]) | (refine Br.mk (fun h => ?_) (fun h => ?_) <;> try simp (dsimp := false) (disch := omega) only [wrap64]) | refine Ob.mk (by first | omega | (intro _ _; rfl) | trivial | (intros; trivial) | assumption | (intro i hi; have h0 : i = 0 := (by omega); subst h0; first | rfl | trivial) | (intro i hi; have h0 : i = 0 ∨ i = 1 := (by omega); rcases h0 with rfl | rfl <;> rfl) | (intro i hi; have h0 : i = 0 ∨ i = 1 ∨ i = 2 := (by omega); rcases h0 with rfl | rfl | rfl <;> rfl)) ?_ | apply_assumption -exfalso -symm)
  all_goals (first | (show endQ _ _ _ _ _ _ _; (repeat (rename (∀ (A : Fr) (H : Hp), AWP _ _ _ _ A H → _) => hK; clear hK)); (repeat (rename (Fr → Hp → Prop) => K; clear K))) | (show Exists _; (repeat (rename (∀ (A : Fr) (H : Hp), AWP _ _ _ _ A H → _) => hK; clear hK)); (repeat (rename (Fr → Hp → Prop) => K; clear K))) | skip)
  refine awp_loop (ι := Nat) (fun t => [(6, .v (.int .i64 ((t : Nat)))), (5, .ref 5 0), (4, .ref 4 0), (0, .v (.int .i64 (n))), (1, .list b 1 ws.length f)]) (skH n nm R) (fun t => t ≤ ws.length) (fun t => ws.length - t) 0 (Nat.zero_le _) ?_ ?_
  · refine Sub.toFF (fun _ => False) (Fr.fit_cons rfl (.refl _) (Fr.fit_cons rfl (.refl _) (Fr.fit_cons rfl (.refl _) (Fr.fit_cons rfl (.refl _) (Fr.fit_cons rfl (.refl _) (Fr.fit_nil _)))))) ?_
    refine leF_upd rfl (bfE rfl (fun i hi => ?_)) (leF_upd rfl (bfE rfl (fun i hi => ?_)) leF_emp id) id
    · match i, hi with
      | 0, _ => rfl
      | 1, _ => rw [enm]; rfl
      | 2, _ => rfl
    · match i, hi with
      | 0, _ => rfl
      | 1, _ => rfl
      | 2, _ => rfl
  intro t ht
  have hp := Hold.mk (specParseCycles_ok n (ws.getD t ByteArray.empty) (hw.h _))
  have hfk := hf t
  have hsc := hRs.h t
  obtain ⟨row, erow⟩ : ∃ r, r = pcsP n (ws.getD t ByteArray.empty) := ⟨_, rfl⟩
  rw [← erow] at hp hsc
  cases t with
  | zero =>
    unfold skH
    repeat' (first | refine awp_seqK fun K hK => ?_ | (refine awp_regionK 131315 rfl ?_; simp only [List.map_cons, List.map_nil]; simp (maxSteps := 1000000) (dsimp := false) (implicitDefEqProofs := false) (disch := omega) only [wrap64, go_sem, hfk]) | (refine awp_regionQK 131315 (by kernel_rfl) (by kernel_rfl) (by kernel_rfl) ?_; simp only [List.map_cons, List.map_nil]; simp (maxSteps := 1000000) (dsimp := false) (implicitDefEqProofs := false) (disch := omega) only [wrap64, go_sem, hfk]) | refine awp_block ?_ | (refine awp_skip ?_; simp only [go_sem, hfk]) | (refine awp_exit ?_; simp only [go_sem, hfk]) | (refine awp_ret ?_; try simp only [go_sem, hfk]) | (refine awp_condP rfl ?_; try simp only [go_sem, hfk]) | (refine BrP.mk (fun h => ?_) (fun h => ?_) <;> try simp (dsimp := false) (disch := omega) only [wrap64]) | (refine Br.mk (fun h => ?_) (fun h => ?_) <;> try simp (dsimp := false) (disch := omega) only [wrap64]) | refine Ob.mk (by first | omega | (intro _ _; rfl) | trivial | (intros; trivial) | assumption | (intro i hi; have h0 : i = 0 := (by omega); subst h0; first | rfl | trivial) | (intro i hi; have h0 : i = 0 ∨ i = 1 := (by omega); rcases h0 with rfl | rfl <;> rfl) | (intro i hi; have h0 : i = 0 ∨ i = 1 ∨ i = 2 := (by omega); rcases h0 with rfl | rfl | rfl <;> rfl)) ?_ | ((first | ((first | refine atF (f := 21) ?_ | refine atQ (f := 21) ?_); (refine cR (hac := hp.h) (hK := ?_) (hs := pcsA_scrub row _); unfold pcsA))); simp (maxSteps := 1000000) (dsimp := false) (implicitDefEqProofs := false) (disch := omega) only [wrap64, go_sem, hfk]) | apply_assumption -exfalso -symm)
    all_goals (first | (show endQ _ _ _ _ _ _ _; (repeat (rename (∀ (A : Fr) (H : Hp), AWP _ _ _ _ A H → _) => hK; clear hK)); (repeat (rename (Fr → Hp → Prop) => K; clear K))) | (show Exists _; (repeat (rename (∀ (A : Fr) (H : Hp), AWP _ _ _ _ A H → _) => hK; clear hK)); (repeat (rename (Fr → Hp → Prop) => K; clear K))) | skip)
    · refine ⟨1, by omega, by omega, ?_⟩
      have e1 : R.take (0 + 1) = [row.1] := hsc (by omega)
      refine Sub.toFF (fun _ => False) (Fr.fit_cons rfl (.refl _) (Fr.fit_cons rfl (.refl _) (Fr.fit_cons rfl (.refl _) (Fr.fit_cons rfl (.refl _) (Fr.fit_cons rfl (.refl _) (Fr.fit_nil _)))))) ?_
      refine leF_upd rfl (bfE rfl (fun i hi => ?_)) (leF_upd rfl (bfE rfl (fun i hi => ?_)) (leF_upd rfl (bfE rfl (fun i hi => rfl)) leF_emp id) id) id
      · rw [e1]
        match i, hi with
        | 0, _ => rfl
      · match i, hi with
        | 0, _ => rfl
        | 1, _ => rfl
        | 2, _ => rfl
    · omega
  | succ t =>
    have htl : (R.take (t + 1)).length = t + 1 := by rw [List.length_take]; omega
    unfold skH
    repeat' (first | refine awp_seqK fun K hK => ?_ | (refine awp_regionK 131315 rfl ?_; simp only [List.map_cons, List.map_nil]; simp (maxSteps := 1000000) (dsimp := false) (implicitDefEqProofs := false) (disch := omega) only [wrap64, go_sem, hfk]) | (refine awp_regionQK 131315 (by kernel_rfl) (by kernel_rfl) (by kernel_rfl) ?_; simp only [List.map_cons, List.map_nil]; simp (maxSteps := 1000000) (dsimp := false) (implicitDefEqProofs := false) (disch := omega) only [wrap64, go_sem, hfk]) | refine awp_block ?_ | (refine awp_skip ?_; simp only [go_sem, hfk]) | (refine awp_exit ?_; simp only [go_sem, hfk]) | (refine awp_ret ?_; try simp only [go_sem, hfk]) | (refine awp_condP rfl ?_; try simp only [go_sem, hfk]) | (refine BrP.mk (fun h => ?_) (fun h => ?_) <;> try simp (dsimp := false) (disch := omega) only [wrap64]) | (refine Br.mk (fun h => ?_) (fun h => ?_) <;> try simp (dsimp := false) (disch := omega) only [wrap64]) | refine Ob.mk (by first | omega | (intro _ _; rfl) | trivial | (intros; trivial) | assumption | (intro i hi; have h0 : i = 0 := (by omega); subst h0; first | rfl | trivial) | (intro i hi; have h0 : i = 0 ∨ i = 1 := (by omega); rcases h0 with rfl | rfl <;> rfl) | (intro i hi; have h0 : i = 0 ∨ i = 1 ∨ i = 2 := (by omega); rcases h0 with rfl | rfl | rfl <;> rfl)) ?_ | ((first | ((first | refine atF (f := 21) ?_ | refine atQ (f := 21) ?_); (refine cR (hac := hp.h) (hK := ?_) (hs := pcsA_scrub row _); unfold pcsA))); simp (maxSteps := 1000000) (dsimp := false) (implicitDefEqProofs := false) (disch := omega) only [wrap64, go_sem, hfk]) | apply_assumption -exfalso -symm)
    all_goals (first | (show endQ _ _ _ _ _ _ _; (repeat (rename (∀ (A : Fr) (H : Hp), AWP _ _ _ _ A H → _) => hK; clear hK)); (repeat (rename (Fr → Hp → Prop) => K; clear K))) | (show Exists _; (repeat (rename (∀ (A : Fr) (H : Hp), AWP _ _ _ _ A H → _) => hK; clear hK)); (repeat (rename (Fr → Hp → Prop) => K; clear K))) | skip)
    · refine ⟨t + 2, by omega, by omega, ?_⟩
      have e1 : R.take (t + 1 + 1) = R.take (t + 1) ++ [row.1] := hsc (by omega)
      refine Sub.toFF (fun _ => False) (Fr.fit_cons rfl (.refl _) (Fr.fit_cons rfl (.refl _) (Fr.fit_cons rfl (.refl _) (Fr.fit_cons rfl (.refl _) (Fr.fit_cons rfl (.refl _) (Fr.fit_nil _)))))) ?_
      refine leF_upd rfl (bfE rfl (fun i hi => ?_)) (leF_upd rfl (bfE rfl (fun i hi => ?_)) (leF_upd rfl (bfE rfl (fun i hi => rfl)) leF_emp id) id) id
      · rw [e1]
        have := ap_ints (R.take (t + 1)) row.1 i (by rw [htl]; omega)
        rw [htl] at this
        exact this
      · match i, hi with
        | 0, _ => rfl
        | 1, _ => rfl
        | 2, _ => rfl
    · have et : t + 1 = R.length := by omega
      have e2 : R.take (t + 1) = R := by rw [et]; exact List.take_length
      rw [e2]
      refine end_postCF (fun x => x ≠ 4) (H' := Hp.emp) (g := vecF [iv n, sv nm, intss R]) rfl rfl (by simp only [go_sem]; rfl) rfl (fun i hi => ?_) leF_emp rfl (fun h => h rfl) ⟨rfl, rfl⟩
      match i, hi with
      | 0, _ => exact .refl _
      | 1, _ => exact .refl _
      | 2, _ => exact fits_II rfl (by decide) rfl et
theorem kp_eq0 : (⟨(kpT 0).1, kpS8 (kpT 0).2.length, sR (kpT 0).1 (kpT 0).2⟩ : Pz) = kpI 0 := by kernel_rfl
theorem kp_eq1 : (⟨(kpT 1).1, kpS8 (kpT 1).2.length, sR (kpT 1).1 (kpT 1).2⟩ : Pz) = kpI 1 := by kernel_rfl
theorem kp_eq2 : (⟨(kpT 2).1, kpS8 (kpT 2).2.length, sR (kpT 2).1 (kpT 2).2⟩ : Pz) = kpI 2 := by kernel_rfl
theorem kp_eq3 : (⟨(kpT 3).1, kpS8 (kpT 3).2.length, sR (kpT 3).1 (kpT 3).2⟩ : Pz) = kpI 3 := by kernel_rfl
theorem kp_eq4 : (⟨(kpT 4).1, kpS8 (kpT 4).2.length, sR (kpT 4).1 (kpT 4).2⟩ : Pz) = kpI 4 := by kernel_rfl
theorem kp_eq5 : (⟨(kpT 5).1, kpS8 (kpT 5).2.length, sR (kpT 5).1 (kpT 5).2⟩ : Pz) = kpI 5 := by kernel_rfl
theorem poX0 (z : Nat → AV) : AC Tryz.prog 30 [.v (.int .i64 (4)), .list true 1 3 (setF (setF (setF z 0 (.v (.string (⟨#[40, 48, 32, 49, 41]⟩)))) 1 (.v (.string (⟨#[40, 49, 32, 50, 41]⟩)))) 2 (.v (.string (⟨#[40, 50, 32, 51, 41]⟩))))] Hp.emp (fun _ => false) (retV (pz (kpI 0))) := by
  rw [← kp_eq0]
  exact puzzleOfX_ok 4 (kpT 0).2 true _ (fun i hi => by
    have hi : i < 3 := hi
    match i, hi with
    | 0, _ => rfl
    | 1, _ => rfl
    | 2, _ => rfl) (by unfold r64; omega) (by decide) (fun j => by have := (kpT_prop 0).2.2 j; omega)
theorem poX1 (z : Nat → AV) : AC Tryz.prog 30 [.v (.int .i64 (6)), .list true 1 2 (setF (setF z 0 (.v (.string (⟨#[40, 48, 32, 49, 32, 50, 32, 51, 32, 52, 32, 53, 41]⟩)))) 1 (.v (.string (⟨#[40, 48, 32, 50, 41]⟩))))] Hp.emp (fun _ => false) (retV (pz (kpI 1))) := by
  rw [← kp_eq1]
  exact puzzleOfX_ok 6 (kpT 1).2 true _ (fun i hi => by
    have hi : i < 2 := hi
    match i, hi with
    | 0, _ => rfl
    | 1, _ => rfl) (by unfold r64; omega) (by decide) (fun j => by have := (kpT_prop 1).2.2 j; omega)
theorem poX2 (z : Nat → AV) : AC Tryz.prog 30 [.v (.int .i64 (6)), .list true 1 2 (setF (setF z 0 (.v (.string (⟨#[40, 48, 32, 49, 32, 50, 32, 51, 41]⟩)))) 1 (.v (.string (⟨#[40, 50, 32, 51, 32, 52, 32, 53, 41]⟩))))] Hp.emp (fun _ => false) (retV (pz (kpI 2))) := by
  rw [← kp_eq2]
  exact puzzleOfX_ok 6 (kpT 2).2 true _ (fun i hi => by
    have hi : i < 2 := hi
    match i, hi with
    | 0, _ => rfl
    | 1, _ => rfl) (by unfold r64; omega) (by decide) (fun j => by have := (kpT_prop 2).2.2 j; omega)
theorem poX3 (z : Nat → AV) : AC Tryz.prog 30 [.v (.int .i64 (7)), .list true 1 3 (setF (setF (setF z 0 (.v (.string (⟨#[40, 48, 32, 49, 32, 50, 32, 51, 41]⟩)))) 1 (.v (.string (⟨#[40, 49, 32, 50, 32, 54, 32, 53, 41]⟩)))) 2 (.v (.string (⟨#[40, 48, 32, 52, 32, 53, 32, 49, 41]⟩))))] Hp.emp (fun _ => false) (retV (pz (kpI 3))) := by
  rw [← kp_eq3]
  exact puzzleOfX_ok 7 (kpT 3).2 true _ (fun i hi => by
    have hi : i < 3 := hi
    match i, hi with
    | 0, _ => rfl
    | 1, _ => rfl
    | 2, _ => rfl) (by unfold r64; omega) (by decide) (fun j => by have := (kpT_prop 3).2.2 j; omega)
theorem poX4 (z : Nat → AV) : AC Tryz.prog 30 [.v (.int .i64 (12)), .list true 1 4 (setF (setF (setF (setF z 0 (.v (.string (⟨#[40, 48, 32, 49, 41, 40, 52, 32, 53, 41]⟩)))) 1 (.v (.string (⟨#[40, 49, 32, 50, 41, 40, 54, 32, 55, 41]⟩)))) 2 (.v (.string (⟨#[40, 50, 32, 51, 41, 40, 56, 32, 57, 41]⟩)))) 3 (.v (.string (⟨#[40, 48, 32, 51, 41, 40, 49, 48, 32, 49, 49, 41]⟩))))] Hp.emp (fun _ => false) (retV (pz (kpI 4))) := by
  rw [← kp_eq4]
  exact puzzleOfX_ok 12 (kpT 4).2 true _ (fun i hi => by
    have hi : i < 4 := hi
    match i, hi with
    | 0, _ => rfl
    | 1, _ => rfl
    | 2, _ => rfl
    | 3, _ => rfl) (by unfold r64; omega) (by decide) (fun j => by have := (kpT_prop 4).2.2 j; omega)
theorem poX5 (z : Nat → AV) : AC Tryz.prog 30 [.v (.int .i64 (12)), .list true 1 4 (setF (setF (setF (setF z 0 (.v (.string (⟨#[40, 48, 32, 49, 32, 50, 41, 40, 51, 32, 54, 32, 57, 41]⟩)))) 1 (.v (.string (⟨#[40, 48, 32, 55, 32, 49, 48, 41, 40, 51, 32, 52, 32, 53, 41]⟩)))) 2 (.v (.string (⟨#[40, 49, 32, 52, 32, 49, 49, 41, 40, 54, 32, 55, 32, 56, 41]⟩)))) 3 (.v (.string (⟨#[40, 50, 32, 53, 32, 56, 41, 40, 57, 32, 49, 48, 32, 49, 49, 41]⟩))))] Hp.emp (fun _ => false) (retV (pz (kpI 5))) := by
  rw [← kp_eq5]
  exact puzzleOfX_ok 12 (kpT 5).2 true _ (fun i hi => by
    have hi : i < 4 := hi
    match i, hi with
    | 0, _ => rfl
    | 1, _ => rfl
    | 2, _ => rfl
    | 3, _ => rfl) (by unfold r64; omega) (by decide) (fun j => by have := (kpT_prop 5).2.2 j; omega)
theorem specKnown_ok (k : Nat) (hk : k < 6) : AC Tryz.prog 6 [.v (.int .i64 ((k : Nat)))] Hp.emp (fun _ => false) (retV (.tup 2 (vecF [pz (kpI k), .v (.bool (true))]))) := by
  have h6 : k = 0 ∨ k = 1 ∨ k = 2 ∨ k = 3 ∨ k = 4 ∨ k = 5 := by omega
  rcases h6 with rfl | rfl | rfl | rfl | rfl | rfl
  · obtain ⟨p, ep⟩ : ∃ p, p = kpI 0 := ⟨_, rfl⟩
    have hac := poX0
    rw [← ep] at hac ⊢
    refine ac_of_awp (N := ⟨_, fun _ => false, fun _ _ => rfl, true⟩) Tryz.func6 rfl (by kernel_rfl) Tryz.ntmps6 (by simp) ?_
    simp only [argsFr, List.zipIdx_cons, List.zipIdx_nil, go_sem]
    repeat' (first | (refine Ob.mk (by intro i hi; have h0 : i = 0 ∨ i = 1 ∨ i = 2 ∨ i = 3 := (by omega); rcases h0 with rfl | rfl | rfl | rfl <;> (first | exact trivial | rfl | (exfalso; omega))) ?_) | (refine awp_regionJK (id := 3) 35791421 1 (by kernel_rfl) (by kernel_rfl) ?_; simp only [List.map_cons, List.map_nil, opsJ_succ, opsJ_0]; simp (maxSteps := 1000000) (dsimp := false) (implicitDefEqProofs := false) (disch := omega) only [wrap64, go_sem]) | (refine awp_regionJK (id := 5) 35791421 1 (by kernel_rfl) (by kernel_rfl) ?_; simp only [List.map_cons, List.map_nil, opsJ_succ, opsJ_0]; simp (maxSteps := 1000000) (dsimp := false) (implicitDefEqProofs := false) (disch := omega) only [wrap64, go_sem]) | (refine awp_regionJK (id := 7) 35791421 1 (by kernel_rfl) (by kernel_rfl) ?_; simp only [List.map_cons, List.map_nil, opsJ_succ, opsJ_0]; simp (maxSteps := 1000000) (dsimp := false) (implicitDefEqProofs := false) (disch := omega) only [wrap64, go_sem]) | (refine awp_regionJK (id := 9) 35791421 1 (by kernel_rfl) (by kernel_rfl) ?_; simp only [List.map_cons, List.map_nil, opsJ_succ, opsJ_0]; simp (maxSteps := 1000000) (dsimp := false) (implicitDefEqProofs := false) (disch := omega) only [wrap64, go_sem]) | (refine awp_regionJK (id := 11) 35791421 1 (by kernel_rfl) (by kernel_rfl) ?_; simp only [List.map_cons, List.map_nil, opsJ_succ, opsJ_0]; simp (maxSteps := 1000000) (dsimp := false) (implicitDefEqProofs := false) (disch := omega) only [wrap64, go_sem]) | (refine awp_regionJK (id := 13) 35791421 1 (by kernel_rfl) (by kernel_rfl) ?_; simp only [List.map_cons, List.map_nil, opsJ_succ, opsJ_0]; simp (maxSteps := 1000000) (dsimp := false) (implicitDefEqProofs := false) (disch := omega) only [wrap64, go_sem]) | refine awp_seqK fun K hK => ?_ | (refine awp_regionK 35791421 rfl ?_; simp only [List.map_cons, List.map_nil]; simp (maxSteps := 1000000) (dsimp := false) (implicitDefEqProofs := false) (disch := omega) only [wrap64, go_sem]) | (refine awp_regionQK 35791421 (by kernel_rfl) (by kernel_rfl) (by kernel_rfl) ?_; simp only [List.map_cons, List.map_nil]; simp (maxSteps := 1000000) (dsimp := false) (implicitDefEqProofs := false) (disch := omega) only [wrap64, go_sem]) | refine awp_block ?_ | (refine awp_skip ?_; simp only [go_sem]) | (refine awp_exit ?_; simp only [go_sem]) | (refine awp_ret ?_; try simp only [go_sem]) | (refine awp_condP rfl ?_; try simp only [go_sem]) | (refine BrP.mk (fun h => ?_) (fun h => ?_) <;> try simp (dsimp := false) (disch := omega) only [wrap64]) | (refine Br.mk (fun h => ?_) (fun h => ?_) <;> try simp (dsimp := false) (disch := omega) only [wrap64]) | refine Ob.mk (by first | omega | (intro _ _; rfl) | trivial | (intros; trivial) | assumption | (intro i hi; have h0 : i = 0 := (by omega); subst h0; first | rfl | trivial) | (intro i hi; have h0 : i = 0 ∨ i = 1 := (by omega); rcases h0 with rfl | rfl <;> rfl) | (intro i hi; have h0 : i = 0 ∨ i = 1 ∨ i = 2 := (by omega); rcases h0 with rfl | rfl | rfl <;> rfl)) ?_ | ((first | ((first | refine atF (f := 30) ?_ | refine atQ (f := 30) ?_); (refine cR (hac := hac _) (hK := ?_) (hs := pz_scrub p _)))); simp (maxSteps := 1000000) (dsimp := false) (implicitDefEqProofs := false) (disch := omega) only [wrap64, go_sem]) | apply_assumption -exfalso -symm)
    all_goals (first | (show endQ _ _ _ _ _ _ _; (repeat (rename (∀ (A : Fr) (H : Hp), AWP _ _ _ _ A H → _) => hK; clear hK)); (repeat (rename (Fr → Hp → Prop) => K; clear K))) | (show Exists _; (repeat (rename (∀ (A : Fr) (H : Hp), AWP _ _ _ _ A H → _) => hK; clear hK)); (repeat (rename (Fr → Hp → Prop) => K; clear K))) | skip)
    all_goals first | omega | exact end_postCF2 (fun _ => False) (H' := Hp.emp) (g := vecF [.v (.int .i64 p.n), .v (.string p.s), intss p.m]) rfl (by decide) rfl rfl (.refl _) (by simp only [go_sem]; rfl) rfl (fun i hi => .refl _) leF_emp rfl id ⟨rfl, rfl⟩
  · obtain ⟨p, ep⟩ : ∃ p, p = kpI 1 := ⟨_, rfl⟩
    have hac := poX1
    rw [← ep] at hac ⊢
    refine ac_of_awp (N := ⟨_, fun _ => false, fun _ _ => rfl, true⟩) Tryz.func6 rfl (by kernel_rfl) Tryz.ntmps6 (by simp) ?_
    simp only [argsFr, List.zipIdx_cons, List.zipIdx_nil, go_sem]
    repeat' (first | (refine Ob.mk (by intro i hi; have h0 : i = 0 ∨ i = 1 ∨ i = 2 ∨ i = 3 := (by omega); rcases h0 with rfl | rfl | rfl | rfl <;> (first | exact trivial | rfl | (exfalso; omega))) ?_) | (refine awp_regionJK (id := 3) 35791421 1 (by kernel_rfl) (by kernel_rfl) ?_; simp only [List.map_cons, List.map_nil, opsJ_succ, opsJ_0]; simp (maxSteps := 1000000) (dsimp := false) (implicitDefEqProofs := false) (disch := omega) only [wrap64, go_sem]) | (refine awp_regionJK (id := 5) 35791421 1 (by kernel_rfl) (by kernel_rfl) ?_; simp only [List.map_cons, List.map_nil, opsJ_succ, opsJ_0]; simp (maxSteps := 1000000) (dsimp := false) (implicitDefEqProofs := false) (disch := omega) only [wrap64, go_sem]) | (refine awp_regionJK (id := 7) 35791421 1 (by kernel_rfl) (by kernel_rfl) ?_; simp only [List.map_cons, List.map_nil, opsJ_succ, opsJ_0]; simp (maxSteps := 1000000) (dsimp := false) (implicitDefEqProofs := false) (disch := omega) only [wrap64, go_sem]) | (refine awp_regionJK (id := 9) 35791421 1 (by kernel_rfl) (by kernel_rfl) ?_; simp only [List.map_cons, List.map_nil, opsJ_succ, opsJ_0]; simp (maxSteps := 1000000) (dsimp := false) (implicitDefEqProofs := false) (disch := omega) only [wrap64, go_sem]) | (refine awp_regionJK (id := 11) 35791421 1 (by kernel_rfl) (by kernel_rfl) ?_; simp only [List.map_cons, List.map_nil, opsJ_succ, opsJ_0]; simp (maxSteps := 1000000) (dsimp := false) (implicitDefEqProofs := false) (disch := omega) only [wrap64, go_sem]) | (refine awp_regionJK (id := 13) 35791421 1 (by kernel_rfl) (by kernel_rfl) ?_; simp only [List.map_cons, List.map_nil, opsJ_succ, opsJ_0]; simp (maxSteps := 1000000) (dsimp := false) (implicitDefEqProofs := false) (disch := omega) only [wrap64, go_sem]) | refine awp_seqK fun K hK => ?_ | (refine awp_regionK 35791421 rfl ?_; simp only [List.map_cons, List.map_nil]; simp (maxSteps := 1000000) (dsimp := false) (implicitDefEqProofs := false) (disch := omega) only [wrap64, go_sem]) | (refine awp_regionQK 35791421 (by kernel_rfl) (by kernel_rfl) (by kernel_rfl) ?_; simp only [List.map_cons, List.map_nil]; simp (maxSteps := 1000000) (dsimp := false) (implicitDefEqProofs := false) (disch := omega) only [wrap64, go_sem]) | refine awp_block ?_ | (refine awp_skip ?_; simp only [go_sem]) | (refine awp_exit ?_; simp only [go_sem]) | (refine awp_ret ?_; try simp only [go_sem]) | (refine awp_condP rfl ?_; try simp only [go_sem]) | (refine BrP.mk (fun h => ?_) (fun h => ?_) <;> try simp (dsimp := false) (disch := omega) only [wrap64]) | (refine Br.mk (fun h => ?_) (fun h => ?_) <;> try simp (dsimp := false) (disch := omega) only [wrap64]) | refine Ob.mk (by first | omega | (intro _ _; rfl) | trivial | (intros; trivial) | assumption | (intro i hi; have h0 : i = 0 := (by omega); subst h0; first | rfl | trivial) | (intro i hi; have h0 : i = 0 ∨ i = 1 := (by omega); rcases h0 with rfl | rfl <;> rfl) | (intro i hi; have h0 : i = 0 ∨ i = 1 ∨ i = 2 := (by omega); rcases h0 with rfl | rfl | rfl <;> rfl)) ?_ | ((first | ((first | refine atF (f := 30) ?_ | refine atQ (f := 30) ?_); (refine cR (hac := hac _) (hK := ?_) (hs := pz_scrub p _)))); simp (maxSteps := 1000000) (dsimp := false) (implicitDefEqProofs := false) (disch := omega) only [wrap64, go_sem]) | apply_assumption -exfalso -symm)
    all_goals (first | (show endQ _ _ _ _ _ _ _; (repeat (rename (∀ (A : Fr) (H : Hp), AWP _ _ _ _ A H → _) => hK; clear hK)); (repeat (rename (Fr → Hp → Prop) => K; clear K))) | (show Exists _; (repeat (rename (∀ (A : Fr) (H : Hp), AWP _ _ _ _ A H → _) => hK; clear hK)); (repeat (rename (Fr → Hp → Prop) => K; clear K))) | skip)
    all_goals first | omega | exact end_postCF2 (fun _ => False) (H' := Hp.emp) (g := vecF [.v (.int .i64 p.n), .v (.string p.s), intss p.m]) rfl (by decide) rfl rfl (.refl _) (by simp only [go_sem]; rfl) rfl (fun i hi => .refl _) leF_emp rfl id ⟨rfl, rfl⟩
  · obtain ⟨p, ep⟩ : ∃ p, p = kpI 2 := ⟨_, rfl⟩
    have hac := poX2
    rw [← ep] at hac ⊢
    refine ac_of_awp (N := ⟨_, fun _ => false, fun _ _ => rfl, true⟩) Tryz.func6 rfl (by kernel_rfl) Tryz.ntmps6 (by simp) ?_
    simp only [argsFr, List.zipIdx_cons, List.zipIdx_nil, go_sem]
    repeat' (first | (refine Ob.mk (by intro i hi; have h0 : i = 0 ∨ i = 1 ∨ i = 2 ∨ i = 3 := (by omega); rcases h0 with rfl | rfl | rfl | rfl <;> (first | exact trivial | rfl | (exfalso; omega))) ?_) | (refine awp_regionJK (id := 3) 35791421 1 (by kernel_rfl) (by kernel_rfl) ?_; simp only [List.map_cons, List.map_nil, opsJ_succ, opsJ_0]; simp (maxSteps := 1000000) (dsimp := false) (implicitDefEqProofs := false) (disch := omega) only [wrap64, go_sem]) | (refine awp_regionJK (id := 5) 35791421 1 (by kernel_rfl) (by kernel_rfl) ?_; simp only [List.map_cons, List.map_nil, opsJ_succ, opsJ_0]; simp (maxSteps := 1000000) (dsimp := false) (implicitDefEqProofs := false) (disch := omega) only [wrap64, go_sem]) | (refine awp_regionJK (id := 7) 35791421 1 (by kernel_rfl) (by kernel_rfl) ?_; simp only [List.map_cons, List.map_nil, opsJ_succ, opsJ_0]; simp (maxSteps := 1000000) (dsimp := false) (implicitDefEqProofs := false) (disch := omega) only [wrap64, go_sem]) | (refine awp_regionJK (id := 9) 35791421 1 (by kernel_rfl) (by kernel_rfl) ?_; simp only [List.map_cons, List.map_nil, opsJ_succ, opsJ_0]; simp (maxSteps := 1000000) (dsimp := false) (implicitDefEqProofs := false) (disch := omega) only [wrap64, go_sem]) | (refine awp_regionJK (id := 11) 35791421 1 (by kernel_rfl) (by kernel_rfl) ?_; simp only [List.map_cons, List.map_nil, opsJ_succ, opsJ_0]; simp (maxSteps := 1000000) (dsimp := false) (implicitDefEqProofs := false) (disch := omega) only [wrap64, go_sem]) | (refine awp_regionJK (id := 13) 35791421 1 (by kernel_rfl) (by kernel_rfl) ?_; simp only [List.map_cons, List.map_nil, opsJ_succ, opsJ_0]; simp (maxSteps := 1000000) (dsimp := false) (implicitDefEqProofs := false) (disch := omega) only [wrap64, go_sem]) | refine awp_seqK fun K hK => ?_ | (refine awp_regionK 35791421 rfl ?_; simp only [List.map_cons, List.map_nil]; simp (maxSteps := 1000000) (dsimp := false) (implicitDefEqProofs := false) (disch := omega) only [wrap64, go_sem]) | (refine awp_regionQK 35791421 (by kernel_rfl) (by kernel_rfl) (by kernel_rfl) ?_; simp only [List.map_cons, List.map_nil]; simp (maxSteps := 1000000) (dsimp := false) (implicitDefEqProofs := false) (disch := omega) only [wrap64, go_sem]) | refine awp_block ?_ | (refine awp_skip ?_; simp only [go_sem]) | (refine awp_exit ?_; simp only [go_sem]) | (refine awp_ret ?_; try simp only [go_sem]) | (refine awp_condP rfl ?_; try simp only [go_sem]) | (refine BrP.mk (fun h => ?_) (fun h => ?_) <;> try simp (dsimp := false) (disch := omega) only [wrap64]) | (refine Br.mk (fun h => ?_) (fun h => ?_) <;> try simp (dsimp := false) (disch := omega) only [wrap64]) | refine Ob.mk (by first | omega | (intro _ _; rfl) | trivial | (intros; trivial) | assumption | (intro i hi; have h0 : i = 0 := (by omega); subst h0; first | rfl | trivial) | (intro i hi; have h0 : i = 0 ∨ i = 1 := (by omega); rcases h0 with rfl | rfl <;> rfl) | (intro i hi; have h0 : i = 0 ∨ i = 1 ∨ i = 2 := (by omega); rcases h0 with rfl | rfl | rfl <;> rfl)) ?_ | ((first | ((first | refine atF (f := 30) ?_ | refine atQ (f := 30) ?_); (refine cR (hac := hac _) (hK := ?_) (hs := pz_scrub p _)))); simp (maxSteps := 1000000) (dsimp := false) (implicitDefEqProofs := false) (disch := omega) only [wrap64, go_sem]) | apply_assumption -exfalso -symm)
    all_goals (first | (show endQ _ _ _ _ _ _ _; (repeat (rename (∀ (A : Fr) (H : Hp), AWP _ _ _ _ A H → _) => hK; clear hK)); (repeat (rename (Fr → Hp → Prop) => K; clear K))) | (show Exists _; (repeat (rename (∀ (A : Fr) (H : Hp), AWP _ _ _ _ A H → _) => hK; clear hK)); (repeat (rename (Fr → Hp → Prop) => K; clear K))) | skip)
    all_goals first | omega | exact end_postCF2 (fun _ => False) (H' := Hp.emp) (g := vecF [.v (.int .i64 p.n), .v (.string p.s), intss p.m]) rfl (by decide) rfl rfl (.refl _) (by simp only [go_sem]; rfl) rfl (fun i hi => .refl _) leF_emp rfl id ⟨rfl, rfl⟩
  · obtain ⟨p, ep⟩ : ∃ p, p = kpI 3 := ⟨_, rfl⟩
    have hac := poX3
    rw [← ep] at hac ⊢
    refine ac_of_awp (N := ⟨_, fun _ => false, fun _ _ => rfl, true⟩) Tryz.func6 rfl (by kernel_rfl) Tryz.ntmps6 (by simp) ?_
    simp only [argsFr, List.zipIdx_cons, List.zipIdx_nil, go_sem]
    repeat' (first | (refine Ob.mk (by intro i hi; have h0 : i = 0 ∨ i = 1 ∨ i = 2 ∨ i = 3 := (by omega); rcases h0 with rfl | rfl | rfl | rfl <;> (first | exact trivial | rfl | (exfalso; omega))) ?_) | (refine awp_regionJK (id := 3) 35791421 1 (by kernel_rfl) (by kernel_rfl) ?_; simp only [List.map_cons, List.map_nil, opsJ_succ, opsJ_0]; simp (maxSteps := 1000000) (dsimp := false) (implicitDefEqProofs := false) (disch := omega) only [wrap64, go_sem]) | (refine awp_regionJK (id := 5) 35791421 1 (by kernel_rfl) (by kernel_rfl) ?_; simp only [List.map_cons, List.map_nil, opsJ_succ, opsJ_0]; simp (maxSteps := 1000000) (dsimp := false) (implicitDefEqProofs := false) (disch := omega) only [wrap64, go_sem]) | (refine awp_regionJK (id := 7) 35791421 1 (by kernel_rfl) (by kernel_rfl) ?_; simp only [List.map_cons, List.map_nil, opsJ_succ, opsJ_0]; simp (maxSteps := 1000000) (dsimp := false) (implicitDefEqProofs := false) (disch := omega) only [wrap64, go_sem]) | (refine awp_regionJK (id := 9) 35791421 1 (by kernel_rfl) (by kernel_rfl) ?_; simp only [List.map_cons, List.map_nil, opsJ_succ, opsJ_0]; simp (maxSteps := 1000000) (dsimp := false) (implicitDefEqProofs := false) (disch := omega) only [wrap64, go_sem]) | (refine awp_regionJK (id := 11) 35791421 1 (by kernel_rfl) (by kernel_rfl) ?_; simp only [List.map_cons, List.map_nil, opsJ_succ, opsJ_0]; simp (maxSteps := 1000000) (dsimp := false) (implicitDefEqProofs := false) (disch := omega) only [wrap64, go_sem]) | (refine awp_regionJK (id := 13) 35791421 1 (by kernel_rfl) (by kernel_rfl) ?_; simp only [List.map_cons, List.map_nil, opsJ_succ, opsJ_0]; simp (maxSteps := 1000000) (dsimp := false) (implicitDefEqProofs := false) (disch := omega) only [wrap64, go_sem]) | refine awp_seqK fun K hK => ?_ | (refine awp_regionK 35791421 rfl ?_; simp only [List.map_cons, List.map_nil]; simp (maxSteps := 1000000) (dsimp := false) (implicitDefEqProofs := false) (disch := omega) only [wrap64, go_sem]) | (refine awp_regionQK 35791421 (by kernel_rfl) (by kernel_rfl) (by kernel_rfl) ?_; simp only [List.map_cons, List.map_nil]; simp (maxSteps := 1000000) (dsimp := false) (implicitDefEqProofs := false) (disch := omega) only [wrap64, go_sem]) | refine awp_block ?_ | (refine awp_skip ?_; simp only [go_sem]) | (refine awp_exit ?_; simp only [go_sem]) | (refine awp_ret ?_; try simp only [go_sem]) | (refine awp_condP rfl ?_; try simp only [go_sem]) | (refine BrP.mk (fun h => ?_) (fun h => ?_) <;> try simp (dsimp := false) (disch := omega) only [wrap64]) | (refine Br.mk (fun h => ?_) (fun h => ?_) <;> try simp (dsimp := false) (disch := omega) only [wrap64]) | refine Ob.mk (by first | omega | (intro _ _; rfl) | trivial | (intros; trivial) | assumption | (intro i hi; have h0 : i = 0 := (by omega); subst h0; first | rfl | trivial) | (intro i hi; have h0 : i = 0 ∨ i = 1 := (by omega); rcases h0 with rfl | rfl <;> rfl) | (intro i hi; have h0 : i = 0 ∨ i = 1 ∨ i = 2 := (by omega); rcases h0 with rfl | rfl | rfl <;> rfl)) ?_ | ((first | ((first | refine atF (f := 30) ?_ | refine atQ (f := 30) ?_); (refine cR (hac := hac _) (hK := ?_) (hs := pz_scrub p _)))); simp (maxSteps := 1000000) (dsimp := false) (implicitDefEqProofs := false) (disch := omega) only [wrap64, go_sem]) | apply_assumption -exfalso -symm)
    all_goals (first | (show endQ _ _ _ _ _ _ _; (repeat (rename (∀ (A : Fr) (H : Hp), AWP _ _ _ _ A H → _) => hK; clear hK)); (repeat (rename (Fr → Hp → Prop) => K; clear K))) | (show Exists _; (repeat (rename (∀ (A : Fr) (H : Hp), AWP _ _ _ _ A H → _) => hK; clear hK)); (repeat (rename (Fr → Hp → Prop) => K; clear K))) | skip)
    all_goals first | omega | exact end_postCF2 (fun _ => False) (H' := Hp.emp) (g := vecF [.v (.int .i64 p.n), .v (.string p.s), intss p.m]) rfl (by decide) rfl rfl (.refl _) (by simp only [go_sem]; rfl) rfl (fun i hi => .refl _) leF_emp rfl id ⟨rfl, rfl⟩
  · obtain ⟨p, ep⟩ : ∃ p, p = kpI 4 := ⟨_, rfl⟩
    have hac := poX4
    rw [← ep] at hac ⊢
    refine ac_of_awp (N := ⟨_, fun _ => false, fun _ _ => rfl, true⟩) Tryz.func6 rfl (by kernel_rfl) Tryz.ntmps6 (by simp) ?_
    simp only [argsFr, List.zipIdx_cons, List.zipIdx_nil, go_sem]
    repeat' (first | (refine Ob.mk (by intro i hi; have h0 : i = 0 ∨ i = 1 ∨ i = 2 ∨ i = 3 := (by omega); rcases h0 with rfl | rfl | rfl | rfl <;> (first | exact trivial | rfl | (exfalso; omega))) ?_) | (refine awp_regionJK (id := 3) 35791421 1 (by kernel_rfl) (by kernel_rfl) ?_; simp only [List.map_cons, List.map_nil, opsJ_succ, opsJ_0]; simp (maxSteps := 1000000) (dsimp := false) (implicitDefEqProofs := false) (disch := omega) only [wrap64, go_sem]) | (refine awp_regionJK (id := 5) 35791421 1 (by kernel_rfl) (by kernel_rfl) ?_; simp only [List.map_cons, List.map_nil, opsJ_succ, opsJ_0]; simp (maxSteps := 1000000) (dsimp := false) (implicitDefEqProofs := false) (disch := omega) only [wrap64, go_sem]) | (refine awp_regionJK (id := 7) 35791421 1 (by kernel_rfl) (by kernel_rfl) ?_; simp only [List.map_cons, List.map_nil, opsJ_succ, opsJ_0]; simp (maxSteps := 1000000) (dsimp := false) (implicitDefEqProofs := false) (disch := omega) only [wrap64, go_sem]) | (refine awp_regionJK (id := 9) 35791421 1 (by kernel_rfl) (by kernel_rfl) ?_; simp only [List.map_cons, List.map_nil, opsJ_succ, opsJ_0]; simp (maxSteps := 1000000) (dsimp := false) (implicitDefEqProofs := false) (disch := omega) only [wrap64, go_sem]) | (refine awp_regionJK (id := 11) 35791421 1 (by kernel_rfl) (by kernel_rfl) ?_; simp only [List.map_cons, List.map_nil, opsJ_succ, opsJ_0]; simp (maxSteps := 1000000) (dsimp := false) (implicitDefEqProofs := false) (disch := omega) only [wrap64, go_sem]) | (refine awp_regionJK (id := 13) 35791421 1 (by kernel_rfl) (by kernel_rfl) ?_; simp only [List.map_cons, List.map_nil, opsJ_succ, opsJ_0]; simp (maxSteps := 1000000) (dsimp := false) (implicitDefEqProofs := false) (disch := omega) only [wrap64, go_sem]) | refine awp_seqK fun K hK => ?_ | (refine awp_regionK 35791421 rfl ?_; simp only [List.map_cons, List.map_nil]; simp (maxSteps := 1000000) (dsimp := false) (implicitDefEqProofs := false) (disch := omega) only [wrap64, go_sem]) | (refine awp_regionQK 35791421 (by kernel_rfl) (by kernel_rfl) (by kernel_rfl) ?_; simp only [List.map_cons, List.map_nil]; simp (maxSteps := 1000000) (dsimp := false) (implicitDefEqProofs := false) (disch := omega) only [wrap64, go_sem]) | refine awp_block ?_ | (refine awp_skip ?_; simp only [go_sem]) | (refine awp_exit ?_; simp only [go_sem]) | (refine awp_ret ?_; try simp only [go_sem]) | (refine awp_condP rfl ?_; try simp only [go_sem]) | (refine BrP.mk (fun h => ?_) (fun h => ?_) <;> try simp (dsimp := false) (disch := omega) only [wrap64]) | (refine Br.mk (fun h => ?_) (fun h => ?_) <;> try simp (dsimp := false) (disch := omega) only [wrap64]) | refine Ob.mk (by first | omega | (intro _ _; rfl) | trivial | (intros; trivial) | assumption | (intro i hi; have h0 : i = 0 := (by omega); subst h0; first | rfl | trivial) | (intro i hi; have h0 : i = 0 ∨ i = 1 := (by omega); rcases h0 with rfl | rfl <;> rfl) | (intro i hi; have h0 : i = 0 ∨ i = 1 ∨ i = 2 := (by omega); rcases h0 with rfl | rfl | rfl <;> rfl)) ?_ | ((first | ((first | refine atF (f := 30) ?_ | refine atQ (f := 30) ?_); (refine cR (hac := hac _) (hK := ?_) (hs := pz_scrub p _)))); simp (maxSteps := 1000000) (dsimp := false) (implicitDefEqProofs := false) (disch := omega) only [wrap64, go_sem]) | apply_assumption -exfalso -symm)
    all_goals (first | (show endQ _ _ _ _ _ _ _; (repeat (rename (∀ (A : Fr) (H : Hp), AWP _ _ _ _ A H → _) => hK; clear hK)); (repeat (rename (Fr → Hp → Prop) => K; clear K))) | (show Exists _; (repeat (rename (∀ (A : Fr) (H : Hp), AWP _ _ _ _ A H → _) => hK; clear hK)); (repeat (rename (Fr → Hp → Prop) => K; clear K))) | skip)
    all_goals first | omega | exact end_postCF2 (fun _ => False) (H' := Hp.emp) (g := vecF [.v (.int .i64 p.n), .v (.string p.s), intss p.m]) rfl (by decide) rfl rfl (.refl _) (by simp only [go_sem]; rfl) rfl (fun i hi => .refl _) leF_emp rfl id ⟨rfl, rfl⟩
  · obtain ⟨p, ep⟩ : ∃ p, p = kpI 5 := ⟨_, rfl⟩
    have hac := poX5
    rw [← ep] at hac ⊢
    refine ac_of_awp (N := ⟨_, fun _ => false, fun _ _ => rfl, true⟩) Tryz.func6 rfl (by kernel_rfl) Tryz.ntmps6 (by simp) ?_
    simp only [argsFr, List.zipIdx_cons, List.zipIdx_nil, go_sem]
    repeat' (first | (refine Ob.mk (by intro i hi; have h0 : i = 0 ∨ i = 1 ∨ i = 2 ∨ i = 3 := (by omega); rcases h0 with rfl | rfl | rfl | rfl <;> (first | exact trivial | rfl | (exfalso; omega))) ?_) | (refine awp_regionJK (id := 3) 35791421 1 (by kernel_rfl) (by kernel_rfl) ?_; simp only [List.map_cons, List.map_nil, opsJ_succ, opsJ_0]; simp (maxSteps := 1000000) (dsimp := false) (implicitDefEqProofs := false) (disch := omega) only [wrap64, go_sem]) | (refine awp_regionJK (id := 5) 35791421 1 (by kernel_rfl) (by kernel_rfl) ?_; simp only [List.map_cons, List.map_nil, opsJ_succ, opsJ_0]; simp (maxSteps := 1000000) (dsimp := false) (implicitDefEqProofs := false) (disch := omega) only [wrap64, go_sem]) | (refine awp_regionJK (id := 7) 35791421 1 (by kernel_rfl) (by kernel_rfl) ?_; simp only [List.map_cons, List.map_nil, opsJ_succ, opsJ_0]; simp (maxSteps := 1000000) (dsimp := false) (implicitDefEqProofs := false) (disch := omega) only [wrap64, go_sem]) | (refine awp_regionJK (id := 9) 35791421 1 (by kernel_rfl) (by kernel_rfl) ?_; simp only [List.map_cons, List.map_nil, opsJ_succ, opsJ_0]; simp (maxSteps := 1000000) (dsimp := false) (implicitDefEqProofs := false) (disch := omega) only [wrap64, go_sem]) | (refine awp_regionJK (id := 11) 35791421 1 (by kernel_rfl) (by kernel_rfl) ?_; simp only [List.map_cons, List.map_nil, opsJ_succ, opsJ_0]; simp (maxSteps := 1000000) (dsimp := false) (implicitDefEqProofs := false) (disch := omega) only [wrap64, go_sem]) | (refine awp_regionJK (id := 13) 35791421 1 (by kernel_rfl) (by kernel_rfl) ?_; simp only [List.map_cons, List.map_nil, opsJ_succ, opsJ_0]; simp (maxSteps := 1000000) (dsimp := false) (implicitDefEqProofs := false) (disch := omega) only [wrap64, go_sem]) | refine awp_seqK fun K hK => ?_ | (refine awp_regionK 35791421 rfl ?_; simp only [List.map_cons, List.map_nil]; simp (maxSteps := 1000000) (dsimp := false) (implicitDefEqProofs := false) (disch := omega) only [wrap64, go_sem]) | (refine awp_regionQK 35791421 (by kernel_rfl) (by kernel_rfl) (by kernel_rfl) ?_; simp only [List.map_cons, List.map_nil]; simp (maxSteps := 1000000) (dsimp := false) (implicitDefEqProofs := false) (disch := omega) only [wrap64, go_sem]) | refine awp_block ?_ | (refine awp_skip ?_; simp only [go_sem]) | (refine awp_exit ?_; simp only [go_sem]) | (refine awp_ret ?_; try simp only [go_sem]) | (refine awp_condP rfl ?_; try simp only [go_sem]) | (refine BrP.mk (fun h => ?_) (fun h => ?_) <;> try simp (dsimp := false) (disch := omega) only [wrap64]) | (refine Br.mk (fun h => ?_) (fun h => ?_) <;> try simp (dsimp := false) (disch := omega) only [wrap64]) | refine Ob.mk (by first | omega | (intro _ _; rfl) | trivial | (intros; trivial) | assumption | (intro i hi; have h0 : i = 0 := (by omega); subst h0; first | rfl | trivial) | (intro i hi; have h0 : i = 0 ∨ i = 1 := (by omega); rcases h0 with rfl | rfl <;> rfl) | (intro i hi; have h0 : i = 0 ∨ i = 1 ∨ i = 2 := (by omega); rcases h0 with rfl | rfl | rfl <;> rfl)) ?_ | ((first | ((first | refine atF (f := 30) ?_ | refine atQ (f := 30) ?_); (refine cR (hac := hac _) (hK := ?_) (hs := pz_scrub p _)))); simp (maxSteps := 1000000) (dsimp := false) (implicitDefEqProofs := false) (disch := omega) only [wrap64, go_sem]) | apply_assumption -exfalso -symm)
    all_goals (first | (show endQ _ _ _ _ _ _ _; (repeat (rename (∀ (A : Fr) (H : Hp), AWP _ _ _ _ A H → _) => hK; clear hK)); (repeat (rename (Fr → Hp → Prop) => K; clear K))) | (show Exists _; (repeat (rename (∀ (A : Fr) (H : Hp), AWP _ _ _ _ A H → _) => hK; clear hK)); (repeat (rename (Fr → Hp → Prop) => K; clear K))) | skip)
    all_goals first | omega | exact end_postCF2 (fun _ => False) (H' := Hp.emp) (g := vecF [.v (.int .i64 p.n), .v (.string p.s), intss p.m]) rfl (by decide) rfl rfl (.refl _) (by simp only [go_sem]; rfl) rfl (fun i hi => .refl _) leF_emp rfl id ⟨rfl, rfl⟩
theorem implKnownNo_ok (x : Int) (hx : ¬ (0 ≤ x ∧ x ≤ 5)) : AC Tryz.prog 7 [.v (.int .i64 (x))] Hp.emp (fun _ => false) (retV (.tup 2 (vecF [pz ⟨0, ⟨#[]⟩, []⟩, .v (.bool (false))]))) := by
  have hd : decide (0 ≤ x ∧ x ≤ 5) = false := decide_eq_false hx
  obtain ⟨T, eT⟩ : ∃ T, T = tabF := ⟨_, rfl⟩
  have eT := Hold.mk eT
  refine ac_of_awp (N := ⟨_, fun _ => false, fun _ _ => rfl, true⟩) Tryz.func7 rfl (by kernel_rfl) Tryz.ntmps7 (by simp) ?_
  simp only [argsFr, List.zipIdx_cons, List.zipIdx_nil, go_sem]
  repeat' (first | (refine awp_cutR 2 4 (A' := [(3, .v (.bool (false))), (2, .ref 2 0), (4, .list false 2 6 T), (0, .v (.int .i64 (x)))]) (H' := Hp.emp.upd 2 (.cells 3 (zF [.int .i64 0, .string ⟨#[]⟩, .slice none 0 0]))) (Sub.toFF (fun x => x ≠ 2) (Fr.fit_cons rfl (.refl _) (Fr.fit_cons rfl (.refl _) (Fr.fit_cons rfl ?_ (Fr.fit_cons rfl (.refl _) (Fr.fit_nil _))))) (leF_upd rfl (.refl _ _ _) leF_emp (by decide))) ?_) | refine awp_seqK fun K hK => ?_ | (refine awp_regionK 2111062593765821 rfl ?_; simp only [List.map_cons, List.map_nil]; simp (maxSteps := 1000000) (dsimp := false) (implicitDefEqProofs := false) (disch := omega) only [wrap64, go_sem, hd]) | (refine awp_regionQK 2111062593765821 (by kernel_rfl) (by kernel_rfl) (by kernel_rfl) ?_; simp only [List.map_cons, List.map_nil]; simp (maxSteps := 1000000) (dsimp := false) (implicitDefEqProofs := false) (disch := omega) only [wrap64, go_sem, hd]) | refine awp_block ?_ | (refine awp_skip ?_; simp only [go_sem, hd]) | (refine awp_exit ?_; simp only [go_sem, hd]) | (refine awp_ret ?_; try simp only [go_sem, hd]) | (refine awp_condP rfl ?_; try simp only [go_sem, hd]) | (refine BrP.mk (fun h => ?_) (fun h => ?_) <;> try simp (dsimp := false) (disch := omega) only [wrap64]) | (refine Br.mk (fun h => ?_) (fun h => ?_) <;> try simp (dsimp := false) (disch := omega) only [wrap64]) | refine Ob.mk (by first | omega | (intro _ _; rfl) | trivial | (intros; trivial) | assumption | (intro i hi; have h0 : i = 0 := (by omega); subst h0; first | rfl | trivial) | (intro i hi; have h0 : i = 0 ∨ i = 1 := (by omega); rcases h0 with rfl | rfl <;> rfl) | (intro i hi; have h0 : i = 0 ∨ i = 1 ∨ i = 2 := (by omega); rcases h0 with rfl | rfl | rfl <;> rfl)) ?_ | ((first | ((first | refine atF (f := 32) ?_ | refine atQ (f := 32) ?_); (refine cV (hac := lengthKp_ok _ _ 6 (by decide)) (hK := ?_))) | ((first | refine atF (f := 31) ?_ | refine atQ (f := 31) ?_); (first | (refine cV (hac := within_ok _ _ _) (hK := ?_)) | (refine cQV (hac := within_ok _ _ _) (hK := ?_))))); simp (maxSteps := 1000000) (dsimp := false) (implicitDefEqProofs := false) (disch := omega) only [wrap64, go_sem, hd]) | apply_assumption -exfalso -symm)
  all_goals (first | (show endQ _ _ _ _ _ _ _; (repeat (rename (∀ (A : Fr) (H : Hp), AWP _ _ _ _ A H → _) => hK; clear hK)); (repeat (rename (Fr → Hp → Prop) => K; clear K))) | (show Exists _; (repeat (rename (∀ (A : Fr) (H : Hp), AWP _ _ _ _ A H → _) => hK; clear hK)); (repeat (rename (Fr → Hp → Prop) => K; clear K))) | skip)
  · rw [eT.h]
    refine .own rfl (by decide) (by decide) (fun i _ => tabF_plain i) fun i hi => ?_
    have hi : i < 12 := hi
    match i, hi with
    | 0, _ => exact .refl _
    | 1, _ => exact fits_SL (n := 3) (ws := (kpT 0).2) rfl (by decide) rfl (fun i hi => by match i, hi with | 0, _ => rfl | 1, _ => rfl | 2, _ => rfl)
    | 2, _ => exact .refl _
    | 3, _ => exact fits_SL (n := 2) (ws := (kpT 1).2) rfl (by decide) rfl (fun i hi => by match i, hi with | 0, _ => rfl | 1, _ => rfl)
    | 4, _ => exact .refl _
    | 5, _ => exact fits_SL (n := 2) (ws := (kpT 2).2) rfl (by decide) rfl (fun i hi => by match i, hi with | 0, _ => rfl | 1, _ => rfl)
    | 6, _ => exact .refl _
    | 7, _ => exact fits_SL (n := 3) (ws := (kpT 3).2) rfl (by decide) rfl (fun i hi => by match i, hi with | 0, _ => rfl | 1, _ => rfl | 2, _ => rfl)
    | 8, _ => exact .refl _
    | 9, _ => exact fits_SL (n := 4) (ws := (kpT 4).2) rfl (by decide) rfl (fun i hi => by match i, hi with | 0, _ => rfl | 1, _ => rfl | 2, _ => rfl | 3, _ => rfl)
    | 10, _ => exact .refl _
    | 11, _ => exact fits_SL (n := 4) (ws := (kpT 5).2) rfl (by decide) rfl (fun i hi => by match i, hi with | 0, _ => rfl | 1, _ => rfl | 2, _ => rfl | 3, _ => rfl)
  exact end_postCF2 (fun _ => False) (H' := Hp.emp) (g := vecF [iv 0, sv ⟨#[]⟩, intss []]) rfl (by decide) rfl rfl (.refl _) (by simp only [go_sem]; rfl) rfl (fun i hi => by match i, hi with | 0, _ => exact .refl _ | 1, _ => exact .refl _ | 2, _ => exact .nil) leF_emp rfl id ⟨rfl, rfl⟩
theorem implKnown_ok (k : Nat) (hk : k < 6) (d : Nat) (hd : d < 2097152) : AC Tryz.prog 7 [.v (.int .i64 ((k : Nat)))] Hp.emp (fun _ => false) (retR d (.tup 2 (vecF [pzo (kpI k) d, .v (.bool (true))])) (kpI k).m) := by
  refine AC.famR (d0 := 64) (a := fun d => .tup 2 (vecF [pzo (kpI k) d, .v (.bool (true))])) (implKnown64 k hk) d (by omega) hd ?_ (fun ρ => rfl) (fun ρ => ?_)
  · have h1 : (kpI k).m.length = (kpT k).2.length := iR_len _ _
    have := (kpT_prop k).2.1
    omega
  · simp only [AV.ren]
    congr 1
    funext j
    match j with
    | 0 => exact pzo_ren (kpI k) 64 ρ
    | 1 => rfl
    | j + 2 => rfl
end Go.Proofs.YtpffmolibjimgaaGreatDoor
end
/- What the rows' worlds say of the library's package variables. -/
section
namespace Go.Proofs.YtpffmolibjimgaaGreatDoor
open Go.Av
set_option linter.unusedVariables false
/-- A change's contract, the world's shape told too. -/
theorem returns_andS {H : Type} {enc : TypeId × Value → H} {a : Assume} {C : Checked} {os : Os} {f : FuncId} {fn : Func} {s : ChangeSpec} {conds : List PathCond} {apart fresh handsOn again : Bool} {X : World → Array Value → Prop}
    (hX : ∀ (w w' : World) (args : Array Value), w.heap = w'.heap → X w args → X w' args)
    (own : ownKnob C.prog.godebug = none) (started : os.Started) (noInit : C.prog.inits.idxOf? f = none) (hfn : C.prog.funcs[f]? = some fn)
    (witness : ∃ (w : World) (tape : Tape) (i : Input), w.os = os ∧ (w.forCall tape i).Shaped C.prog ∧ i.vars = [] ∧ Input.okWide C.prog (w.forCall tape i) .any w.heap.size f i ∧
      ((s.pre enc C.prog fn conds apart (w.forCall tape i).memory i.args ∧ X (w.forCall tape i).memory i.args) ∧ sizedMet enc C.prog fn (OpenSpec.ofChange s) apart (w.forCall tape i).memory i.args) ∧ a.holds C.prog (lone (Frame.enter C.prog f i.args .normal) [] (w.forCall tape i)))
    (contract : ∀ (W : World) (base : Nat) (args : Array Value) (ds gs : List (DataW H)) (before : List MemPlace),
      (∀ (j : Nat) t v, fn.params[j]? = some t → args[j]? = some v → Value.okWide C.prog W .any base t v) →
      DataW.Whole enc C.prog fn.params.toList s.vars apart W args.toList ds gs before →
      X W args → W.ShapedOpen C.prog →
      Calls C.prog f args W fun e W' => ∃ v, e = .returned v ∧ s.post enc C.prog fn apart fresh handsOn again W args v W') :
    ReturnsInHanded a C os f .any (fun w args => (s.pre enc C.prog fn conds apart w args ∧ X w args) ∧ sizedMet enc C.prog fn (OpenSpec.ofChange s) apart w args) (s.post enc C.prog fn apart fresh handsOn again) := by
  refine returnsInHanded_of_calls own started noInit witness ?_
  intro w tape i _ hsh _ hok hpre hholds
  obtain ⟨_, _, _, fn', hfn', _, _, _, _, hval⟩ := hok
  have e : fn' = fn := Option.some.inj (hfn'.symm.trans hfn)
  subst e
  obtain ⟨⟨⟨ds, gs, before, hw, hc⟩, hx⟩, hz⟩ := hpre
  have hw' := DataW.Whole.of_heap (w' := w.forCall tape i) (by rfl) hw
  refine (contract (w.forCall tape i) w.heap.size i.args ds gs before hval hw' (hX _ _ _ (by rfl) hx) hsh).mono fun e W' ⟨v, he, hp⟩ => ?_
  subst he
  exact ChangeSpec.post_blind hp
theorem var_heap {P : Program} {w : World} {n : String} {g : Nat} {cs : Array Value} (hg : P.globalNamed n = some g) (h : w.var? P n = some cs) : ∃ e fz, w.heap[g]? = some (.cells cs e fz) := by
  unfold World.var? at h
  rw [hg] at h
  simp only [Option.bind_some] at h
  split at h
  · rename_i cs' e fz hh
    cases h
    exact ⟨e, fz, hh⟩
  · cases h
theorem err_of_laid {W : World} {n : String} {g : Nat} {nm : String} {d : DataW Unit} (hg : Tryz.prog.globalNamed n = some g) (hty : (Tryz.prog.globals[g]?).map (·.type) = some 110) (h : Lib.VarReads Tryz.prog W n (.iface nm d)) : ∃ ev, W.cell? ⟨g, 0, none⟩ = some ev ∧ (ev = .nilIface ∨ ∃ te pe, ev = .iface te pe) := by
  obtain ⟨g', t, cs, fuel, p, h1, h2, h3, h4⟩ := h
  obtain rfl := Option.some.inj (hg.symm.trans h1)
  obtain rfl := Option.some.inj (hty.symm.trans h2)
  obtain ⟨_, u, v, e1, _, _⟩ := iface_of_trod Tryz.underlying110 h4
  obtain ⟨e, fz, hh⟩ := var_heap hg h3
  have hc : cs = #[.iface u v] := by
    have := congrArg List.toArray e1
    simpa using this
  refine ⟨.iface u v, ?_, .inr ⟨u, v, rfl⟩⟩
  simp [World.cell?, hh, hc]
theorem env_of_laid {W : World} (hL : laidMetH Tryz.prog Rows.fnExactKnownPuzzleRow.laid W) (hsh : W.ShapedOpen Tryz.prog) : EnvF W := by
  rw [Go.MakeChecks.laidMetH_plain _ _ _ (by kernel_rfl)] at hL
  refine ⟨cell_of_shapedOpen_int (zero := #[.int .i64 0]) (t := 3) hsh (of_decide_eq_true (by kernel_rfl)) (by kernel_rfl) rfl (by kernel_rfl) (by kernel_rfl) Tryz.underlying3, ?_, ?_, ?_⟩
  · exact err_of_laid (by kernel_rfl) (by kernel_rfl) (Lib.laidMet.reads hL (n := "strconv.ErrSyntax") (d := Rows.laid_strconv_ErrSyntax) (by unfold Rows.fnExactKnownPuzzleRow; simp only [List.mem_cons]; simp))
  · exact err_of_laid (by kernel_rfl) (by kernel_rfl) (Lib.laidMet.reads hL (n := "strconv.ErrRange") (d := Rows.laid_strconv_ErrRange) (by unfold Rows.fnExactKnownPuzzleRow; simp only [List.mem_cons]; simp))
  · obtain ⟨g', t, cs, fuel, p, h1, h2, h3, h4⟩ := Lib.laidMet.reads hL (d := Rows.laid_internal_strconv_uint64pow10) (by unfold Rows.fnExactKnownPuzzleRow; exact List.Mem.tail _ (List.Mem.tail _ (List.Mem.head _)))
    obtain rfl := Option.some.inj (h1.symm.trans (show _ = some 1 by kernel_rfl))
    obtain rfl := Option.some.inj ((show (Tryz.prog.globals[1]?).map (·.type) = some 146 by kernel_rfl).symm.trans h2)
    obtain ⟨e, fz, hh⟩ := var_heap (by kernel_rfl) h3
    have e1 : (Rows.laid_internal_strconv_uint64pow10 : DataW Unit) = Lib.tabData .u64 ((List.range 20).map fun i : Nat => (10 : Int) ^ i) := by kernel_rfl
    rw [e1] at h4
    have e2 := Lib.cells_of_tab (n := 20) Tryz.underlying146 Tryz.underlying43 (by kernel_rfl) (by kernel_rfl) h4
    refine ⟨e, fz, ?_⟩
    have e3 : cs = ((List.range 20).map fun i : Nat => Value.int .u64 ((10 : Int) ^ i)).toArray := by
      have e4 := congrArg List.toArray e2
      rw [List.map_map] at e4
      rw [Array.toArray_toList] at e4
      exact e4
    rw [hh, e3]
theorem env_room {W : World} (hsh : W.ShapedOpen Tryz.prog) : envN ≤ W.heap.size := by
  have hs : (((begin Tryz.prog (fun _ _ => 0) default).world.heap[7]?).bind Obj.row?).isSome = true := by kernel_rfl
  obtain ⟨zt, hz⟩ := Option.isSome_iff_exists.1 hs
  obtain ⟨cs, h, _⟩ := hsh.1 7 zt.1 zt.2 (of_decide_eq_true (by kernel_rfl)) hz
  have := (Array.getElem?_eq_some_iff.1 h).1
  show 8 ≤ _
  omega
end Go.Proofs.YtpffmolibjimgaaGreatDoor
end
