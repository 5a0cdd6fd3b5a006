import Derived.Test.YtpffmolibjimgaaGreatDoorQ37
import Derived.Test.YtpffmolibjimgaaGreatDoorQ36
import Derived.Test.YtpffmolibjimgaaGreatDoorQ3
/- Stabilizer chains of our own: how they lie in memory. -/
section
namespace Go.Proofs.YtpffmolibjimgaaGreatDoor
open Go.Av
set_option linter.unusedVariables false
set_option linter.unusedSimpArgs false
open Go.Pm (Pm comp invp idn img Ch)

def gnF (n : Nat) (C : Ch) (i : Nat) : AV := if i < n then .own (sub 1000001 i) 0 1 (C.S i).length else .dead
def tnF (n : Nat) (i : Nat) : AV := if i < n then .own (sub 1000002 i) 0 1 n else .dead
theorem gnF_app {n i : Nat} (C : Ch) (h : i < n) : gnF n C i = .own (sub 1000001 i) 0 1 (C.S i).length := if_pos h
theorem tnF_app {n i : Nat} (h : i < n) : tnF n i = .own (sub 1000002 i) 0 1 n := if_pos h
def kI (n : Nat) : Nat → AV := vecF [.v (.int .i64 n), .own 1000001 0 1 n, .own 1000002 0 1 n]
def kS (n : Nat) : Nat → AV := vecF [.v (.int .i64 n), .own 1000002 0 1 n, .own 1000001 0 1 n]
theorem kI0 (n : Nat) : kI n 0 = .v (.int .i64 n) := rfl
theorem kI1 (n : Nat) : kI n 1 = .own 1000001 0 1 n := rfl
theorem kI2 (n : Nat) : kI n 2 = .own 1000002 0 1 n := rfl
/-- A chain: its struct (F), the rows of generators, the rows of representatives. -/
def chH (F : Nat → AV) (n : Nat) (C : Ch) : Hp := fun h =>
  if h = 1000000 then some (.cells 3 F)
  else if h = 1000001 then some (.cells n (gnF n C))
  else if h = 1000002 then some (.cells n (tnF n))
  else if h / FB = 1000002 ∧ h % FB < n then some (.cells (C.S (h % FB)).length (cM ints [] (C.S (h % FB))))
  else if h / FB = 1000003 ∧ h % FB < n then some (.cells n (tF (C.T (h % FB))))
  else none
section
variable {F : Nat → AV} {n : Nat} {C C' : Ch} {R : Hp}
theorem chH_c : chH F n C 1000000 = some (.cells 3 F) := by simp [chH]
theorem chH_g : chH F n C 1000001 = some (.cells n (gnF n C)) := by simp [chH]
theorem chH_t : chH F n C 1000002 = some (.cells n (tnF n)) := by simp [chH]
theorem sub_lits (d i : Nat) : sub d i ≠ 1000000 ∧ sub d i ≠ 1000001 ∧ sub d i ≠ 1000002 := by
  have := sub_ge d i; rw [FB_eq] at this; omega
theorem chH_gs {i : Nat} (hi : i < n) (hn : n ≤ 20) : chH F n C (sub 1000001 i) = some (.cells (C.S i).length (cM ints [] (C.S i))) := by
  obtain ⟨h1, h2, h3⟩ := sub_lits 1000001 i
  have hb : i < FB := by rw [FB_eq]; omega
  simp [chH, h1, h2, h3, sub_div hb, sub_mod hb, hi]
theorem chH_ts {i : Nat} (hi : i < n) (hn : n ≤ 20) : chH F n C (sub 1000002 i) = some (.cells n (tF (C.T i))) := by
  obtain ⟨h1, h2, h3⟩ := sub_lits 1000002 i
  have hb : i < FB := by rw [FB_eq]; omega
  simp [chH, h1, h2, h3, sub_div hb, sub_mod hb, hi]
theorem shF_app {α : Type} (g : α → AV) (d : α) (pre r : List α) : shF pre.length (cM g d (pre ++ r)) = cM g d r := by
  funext j
  simp only [shF, cM_app]
  rw [getD_append, if_neg (by omega)]
  congr 2
  omega
theorem getD_mid {α : Type} (pre r : List α) (x d : α) : (pre ++ x :: r).getD pre.length d = x := by
  rw [getD_append, if_neg (by omega)]; simp
theorem hs_c {p : Nat → Bool} : Hp.scrub p (chH F n C) 1000000 = some (.cells 3 (scF p F)) := by simp [Hp.scrub, chH_c, Blk.scrub_cells]
theorem hs_g {p : Nat → Bool} : Hp.scrub p (chH F n C) 1000001 = some (.cells n (scF p (gnF n C))) := by simp [Hp.scrub, chH_g, Blk.scrub_cells]
theorem chH_low {h : Nat} (hh : h < 1000000) : chH F n C h = none := by
  have : h / FB = 0 := top_div (by rw [FB_eq]; omega)
  unfold chH
  rw [if_neg (by omega), if_neg (by omega), if_neg (by omega), if_neg (by omega), if_neg (by omega)]
/-- What names a chain has. -/
theorem chH_names {h : Nat} {B : Blk} (hB : chH F n C h = some B) : (h = 1000000 ∧ B = .cells 3 F) ∨ (h = 1000001 ∧ B = .cells n (gnF n C)) ∨ (h = 1000002 ∧ B = .cells n (tnF n))
    ∨ (∃ i, i < n ∧ h = sub 1000001 i ∧ B = .cells (C.S i).length (cM ints [] (C.S i))) ∨ (∃ i, i < n ∧ h = sub 1000002 i ∧ B = .cells n (tF (C.T i))) := by
  unfold chH at hB
  split at hB
  · rename_i e; simp only [Option.some.injEq] at hB; exact .inl ⟨e, hB.symm⟩
  split at hB
  · rename_i e; simp only [Option.some.injEq] at hB; exact .inr (.inl ⟨e, hB.symm⟩)
  split at hB
  · rename_i e; simp only [Option.some.injEq] at hB; exact .inr (.inr (.inl ⟨e, hB.symm⟩))
  split at hB
  · rename_i e; simp only [Option.some.injEq] at hB; exact .inr (.inr (.inr (.inl ⟨h % FB, e.2, sub_of e.1, hB.symm⟩)))
  split at hB
  · rename_i e; simp only [Option.some.injEq] at hB; exact .inr (.inr (.inr (.inr ⟨h % FB, e.2, sub_of e.1, hB.symm⟩)))
  · simp at hB
theorem chA_c : ((chH F n C).add R) 1000000 = some (.cells 3 F) := Hp.add_some chH_c
theorem chA_g : ((chH F n C).add R) 1000001 = some (.cells n (gnF n C)) := Hp.add_some chH_g
theorem chA_t : ((chH F n C).add R) 1000002 = some (.cells n (tnF n)) := Hp.add_some chH_t
theorem chA_gs {i : Nat} (hi : i < n) (hn : n ≤ 20) : ((chH F n C).add R) (sub 1000001 i) = some (.cells (C.S i).length (cM ints [] (C.S i))) := Hp.add_some (chH_gs hi hn)
theorem chA_ts {i : Nat} (hi : i < n) (hn : n ≤ 20) : ((chH F n C).add R) (sub 1000002 i) = some (.cells n (tF (C.T i))) := Hp.add_some (chH_ts hi hn)
theorem chA_low {h : Nat} (hh : h < 1000000) : ((chH F n C).add R) h = R h := Hp.add_none (chH_low hh)

theorem sl0 (d i : Nat) : (1000000 == sub d i) = false := beq_eq_false_iff_ne.2 fun e => (sub_lits d i).1 e.symm
theorem sl1 (d i : Nat) : (1000001 == sub d i) = false := beq_eq_false_iff_ne.2 fun e => (sub_lits d i).2.1 e.symm
theorem sl2 (d i : Nat) : (1000002 == sub d i) = false := beq_eq_false_iff_ne.2 fun e => (sub_lits d i).2.2 e.symm
theorem sub_lowb {d i h : Nat} (hh : h < 1000000) : (sub d i == h) = false := beq_eq_false_iff_ne.2 fun e => by have := sub_ge d i; rw [FB_eq] at this; omega
theorem sub_lowe {d i h : Nat} (hh : h < 1000000) : (sub d i = h) = False := eq_false fun e => by have := sub_ge d i; rw [FB_eq] at this; omega
theorem sn0 (d i : Nat) : (1000000 = sub d i) = False := eq_false fun e => (sub_lits d i).1 e.symm
theorem sn1 (d i : Nat) : (1000001 = sub d i) = False := eq_false fun e => (sub_lits d i).2.1 e.symm
theorem sn2 (d i : Nat) : (1000002 = sub d i) = False := eq_false fun e => (sub_lits d i).2.2 e.symm
theorem fits_row {H : Hp} {D : Nat → Prop} {i : Nat} (h : H (sub 1000002 i) = some (.cells n (tF (C.T i)))) (hD : D (sub 1000002 i)) : Fits H D (.own (sub 1000002 i) 0 1 n) (.list false 1 n (tF (C.T i))) :=
  .own h hD (by omega) (fun j _ => by unfold tF; cases C.T i j <;> trivial) (fun j _ => by rw [Nat.zero_add]; exact .refl _)
theorem fits_gen {H : Hp} {D : Nat → Prop} {i : Nat} (h : H (sub 1000001 i) = some (.cells (C.S i).length (cM ints [] (C.S i)))) (hD : D (sub 1000001 i)) : Fits H D (.own (sub 1000001 i) 0 1 (C.S i).length) (.list false 1 (C.S i).length (cM ints [] (C.S i))) :=
  .own h hD (by omega) (fun j _ => trivial) (fun j _ => by rw [Nat.zero_add]; exact .refl _)
/-- A chain may be read. -/
theorem fits_rows {H : Hp} {D : Nat → Prop} (h : Hp.le (chH F n C) H) (hn : n ≤ 20) (hD : ∀ h, D h) : Fits H D (.own 1000002 0 1 n) (.list false 1 n (rowF n C)) :=
  .own (h _ _ chH_t) (hD _) (by omega) (fun j _ => trivial) (fun j hj => by rw [Nat.zero_add, tnF_app (by omega)]; exact fits_row (h _ _ (chH_ts (by omega) hn)) (hD _))
theorem fits_gens {H : Hp} {D : Nat → Prop} (h : Hp.le (chH F n C) H) (hn : n ≤ 20) (hD : ∀ h, D h) : Fits H D (.own 1000001 0 1 n) (.list false 1 n (genF C)) :=
  .own (h _ _ chH_g) (hD _) (by omega) (fun j _ => trivial) (fun j hj => by rw [Nat.zero_add, gnF_app _ (by omega)]; exact fits_gen (h _ _ (chH_gs (by omega) hn)) (hD _))
theorem fits_chI {H : Hp} {D : Nat → Prop} (h : Hp.le (chH (kI n) n C) H) (hn : n ≤ 20) (hD : ∀ h, D h) : Fits H D (.ref 1000000 0) (chI n C) := by
  refine .ref (h _ _ chH_c) (hD _) (by omega) (fun i hi => ?_) (fun i hi => ?_)
  · have h0 : i = 0 ∨ i = 1 ∨ i = 2 := by omega
    rcases h0 with rfl | rfl | rfl <;> trivial
  · have h0 : i = 0 ∨ i = 1 ∨ i = 2 := by omega
    rcases h0 with rfl | rfl | rfl
    · exact .refl _
    · exact fits_gens h hn hD
    · exact fits_rows h hn hD
theorem add_le {H R R' : Hp} (h : Hp.le R' R) : Hp.le (H.add R') (H.add R) := by
  intro x B hB
  unfold Hp.add at hB ⊢
  cases e : H x with
  | some B' => rw [e] at hB; exact hB
  | none => rw [e] at hB; exact h x B hB
theorem le_of_eq_add (H : Hp) : Hp.le (H.add Hp.emp) H := by
  intro x B hB
  unfold Hp.add at hB
  cases e : H x with
  | some B' => rw [e] at hB; exact hB
  | none => rw [e] at hB; simp [Hp.emp] at hB
theorem le_add (H R : Hp) : Hp.le H (H.add R) := fun h B hB => Hp.add_some hB

/-- The names that a call at level l leaves where they are. -/
def pnC (l h : Nat) : Bool := h == 1000000 || h == 1000001 || h == 1000002 || h / FB == 1000003 || (h / FB == 1000002 && decide (h % FB < l))
/-- .. and those that it may move. -/
def pX (l h : Nat) : Bool := h / FB == 1000002 && decide (l ≤ h % FB)
theorem pnC_low {l h : Nat} (hh : h < 1000000) : pnC l h = false := by
  have : h / FB = 0 := top_div (by rw [FB_eq]; omega)
  simp [pnC, this]; omega
theorem pX_low {l h : Nat} (hh : h < 2097152) : pX l h = false := by
  have : h / FB = 0 := top_div (by rw [FB_eq]; omega)
  simp [pX, this]
theorem pX_ts {l i : Nat} (hi : i < 20) : pX l (sub 1000002 i) = false := by
  have hb : i < FB := by rw [FB_eq]; omega
  simp [pX, sub_div hb]
theorem pX_gs {l i : Nat} (hi : i < 20) (h : i < l) : pX l (sub 1000001 i) = false := by
  have hb : i < FB := by rw [FB_eq]; omega
  simp [pX, sub_div hb, sub_mod hb]; omega
theorem pnC_gs {l i : Nat} (hi : i < 20) (h : l ≤ i) : pnC l (sub 1000001 i) = false := by
  have hb : i < FB := by rw [FB_eq]; omega
  obtain ⟨h1, h2, h3⟩ := sub_lits 1000001 i
  simp [pnC, sub_div hb, sub_mod hb, h1, h2, h3]; omega
theorem pnC_pX {l m h : Nat} (hm : l ≤ m) (hp : pnC l h = true) : pX m h = false := by
  unfold pnC at hp
  unfold pX
  simp only [Bool.or_eq_true, Bool.and_eq_true, beq_iff_eq, decide_eq_true_eq] at hp
  rcases hp with (((rfl | rfl) | rfl) | h1) | ⟨h1, h2⟩
  · exact pX_low (by decide)
  · exact pX_low (by decide)
  · exact pX_low (by decide)
  · simp [h1]
  · simp [h1]; omega

/-- What a call at the level l makes of a chain. -/
def postC (F : Nat → AV) (n : Nat) (Q : Ch → Prop) : AV → Hp → Prop := fun r H => r = .tup 0 (vecF []) ∧ ∃ C', Q C' ∧ H = chH F n C'
theorem chH_ne {h : Nat} (hn : chH F n C' h ≠ none) : chH F n C h ≠ none := by
  unfold chH at hn ⊢
  by_cases h1 : h = 1000000
  · simp [h1]
  by_cases h2 : h = 1000001
  · simp [h2]
  by_cases h3 : h = 1000002
  · simp [h3]
  by_cases h4 : h / FB = 1000002 ∧ h % FB < n
  · simp [h1, h2, h3, h4]
  by_cases h5 : h / FB = 1000003 ∧ h % FB < n
  · simp [h1, h2, h3, h5]
  simp [h1, h2, h3, h4, h5] at hn
def okF (n : Nat) (F : Nat → AV) : Prop := F = kI n ∨ F = kS n
theorem okF_scrub (hF : okF n F) (p : Nat → Bool) (h1 : p 1000001 = false) (h2 : p 1000002 = false) : (fun i => (F i).scrub p) = F := by
  funext i
  rcases hF with rfl | rfl
  · match i with
    | 0 => rfl
    | 1 => simp [kI, vecF, AV.scrub, h1]
    | 2 => simp [kI, vecF, AV.scrub, h2]
    | i + 3 => rfl
  · match i with
    | 0 => rfl
    | 1 => simp [kS, vecF, AV.scrub, h2]
    | 2 => simp [kS, vecF, AV.scrub, h1]
    | i + 3 => rfl
theorem tF_scrub (T : Nat → Option (List Int)) (p : Nat → Bool) : (fun i => (tF T i).scrub p) = tF T := by
  funext i; unfold tF; cases T i <;> rfl
/-- A heap of a chain that is left alone by p. -/
theorem chH_scrub (hF : okF n F) (hn : n ≤ 20) (p : Nat → Bool) (h1 : p 1000001 = false) (h2 : p 1000002 = false) (h3 : ∀ i, i < n → p (sub 1000001 i) = false) (h4 : ∀ i, i < n → p (sub 1000002 i) = false) : (chH F n C).scrub p = chH F n C := by
  have e1 : (fun i => (gnF n C i).scrub p) = gnF n C := by
    funext i; unfold gnF; split
    · simp [AV.scrub, h3 i ‹_›]
    · rfl
  have e2 : (fun i => (tnF n i).scrub p) = tnF n := by
    funext i; unfold tnF; split
    · simp [AV.scrub, h4 i ‹_›]
    · rfl
  have e4 : ∀ i, (fun j => (cM ints [] (C.S i) j).scrub p) = cM ints [] (C.S i) := fun i => rfl
  funext h
  unfold Hp.scrub
  cases e : chH F n C h with
  | none => rfl
  | some B =>
    simp only [Option.map_some, Option.some.injEq]
    rcases chH_names e with ⟨_, rfl⟩ | ⟨_, rfl⟩ | ⟨_, rfl⟩ | ⟨i, _, _, rfl⟩ | ⟨i, _, _, rfl⟩
    · simp only [Blk.scrub, okF_scrub hF p h1 h2]
    · simp only [Blk.scrub, e1]
    · simp only [Blk.scrub, e2]
    · simp only [Blk.scrub, e4]
    · simp only [Blk.scrub, tF_scrub]
end
section
variable {P : Program} {N : Cx} {A : Fr} {H R : Hp} {F : Nat → AV} {n l : Nat} {C : Ch}
/-- A call that changes our chain. -/
theorem callCh {f : FuncId} {args : List AV} {Q : Ch → Prop} {K : AV → Fr → Hp → Prop} (hac : AC P f args (chH F n C) (pnC l) (postC F n Q)) (hF : okF n F) (hn : n ≤ 20) (hH : H = (chH F n C).add R)
    (hRs : R.scrub (pX l) = R) (hpn : ∀ h, N.pn h = true → pX l h = false)
    (hK : ∀ C', Q C' → K (.tup 0 (vecF [])) (A.scrub (pX l)) ((chH F n C').add R)) : CallG P N f args A H K := by
  subst hH
  refine callG_of hac (pX l) false (le_add _ _) (FitsL.refl _) (fun _ => rfl) ?_ hpn ?_
  · intro h hne hp
    cases e : chH F n C h with
    | none => exact absurd e hne
    | some B =>
      rcases chH_names e with ⟨rfl, _⟩ | ⟨rfl, _⟩ | ⟨rfl, _⟩ | ⟨i, hi, rfl, _⟩ | ⟨i, hi, rfl, _⟩
      · simp [pnC]
      · simp [pnC]
      · simp [pnC]
      · have hb : i < FB := by rw [FB_eq]; omega
        simp [pX, sub_div hb, sub_mod hb] at hp
        simp [pnC, sub_div hb, sub_mod hb, hp]
      · have hb : i < FB := by rw [FB_eq]; omega
        simp [pnC, sub_div hb]
  · rintro r H' ⟨rfl, C', hQ, rfl⟩
    refine ⟨fun h h1 h2 => absurd h2 (chH_ne h1), fun e => absurd e (by decide), ?_⟩
    have lv : ∀ h B, chH F n C' h = some B → (!liveB (chH F n C') h) = false := fun h B e => by simp [liveB, e]
    have e1 : (chH F n C').scrub (fun h => !liveB (chH F n C') h) = chH F n C' := chH_scrub hF hn _ (lv _ _ chH_g) (lv _ _ chH_t) (fun i hi => lv _ _ (chH_gs hi hn)) (fun i hi => lv _ _ (chH_ts hi hn))
    have e2 : Hp.over (chH F n C') (((chH F n C).add R).scrub (pX l)) (chH F n C) = (chH F n C').add R := by
      funext h
      unfold Hp.over
      cases e : chH F n C' h with
      | some B => rw [Hp.add_some e]
      | none =>
        have e3 : chH F n C h = none := by
          cases e4 : chH F n C h with
          | none => rfl
          | some B => exact absurd e (chH_ne (C := C') (C' := C) (by rw [e4]; simp))
        rw [e3, Hp.add_none e]
        have := congrFun hRs h
        simp only [Hp.scrub] at this ⊢
        rw [Hp.add_none e3, this]; rfl
    have e5 : (AV.tup 0 (vecF [])).scrub (fun h => !liveB (chH F n C') h) = .tup 0 (vecF []) := by
      simp only [AV.scrub]; congr 1
    rw [e1, e2, e5]
    exact hK C' hQ
def pB (h : Nat) : Bool := decide (1000000 ≤ h)
def postN (F : Nat → AV) (n : Nat) (Q : Ch → Prop) : AV → Hp → Prop := fun r H => r = .ref 1000000 0 ∧ ∃ C, Q C ∧ H = chH F n C
/-- A call that makes a chain. -/
theorem callNew {f : FuncId} {args : List AV} {pn : Nat → Bool} {Q : Ch → Prop} {K : AV → Fr → Hp → Prop} (hac : AC P f args Hp.emp pn (postN F n Q)) (hF : okF n F) (hn : n ≤ 20) (hs : H.scrub pB = H) (hpn : N.pn = fun _ => false)
    (hK : ∀ C, Q C → K (.ref 1000000 0) (A.scrub pB) ((chH F n C).add H)) : CallG P N f args A H K := by
  refine callG_of hac pB false (fun h B e => by simp [Hp.emp] at e) (FitsL.refl _) (fun _ => rfl) (fun h hne => by simp [Hp.emp] at hne) (fun h e => by rw [hpn] at e; simp at e) ?_
  rintro r H' ⟨rfl, C, hQ, rfl⟩
  refine ⟨fun h hne _ => ?_, fun e => absurd e (by decide), ?_⟩
  · refine decide_eq_true (Classical.byContradiction fun hc => hne (chH_low (by omega)))
  · have lv : ∀ h B, chH F n C h = some B → (!liveB (chH F n C) h) = false := fun h B e => by simp [liveB, e]
    have e1 : (chH F n C).scrub (fun h => !liveB (chH F n C) h) = chH F n C := chH_scrub hF hn _ (lv _ _ chH_g) (lv _ _ chH_t) (fun i hi => lv _ _ (chH_gs hi hn)) (fun i hi => lv _ _ (chH_ts hi hn))
    have e2 : Hp.over (chH F n C) (H.scrub pB) Hp.emp = (chH F n C).add H := by
      funext h
      unfold Hp.over Hp.add
      cases chH F n C h with
      | some B => rfl
      | none => rw [hs]; rfl
    have e5 : (AV.ref 1000000 0).scrub (fun h => !liveB (chH F n C) h) = .ref 1000000 0 := by
      simp only [AV.scrub, lv _ _ chH_c]; rfl
    rw [e1, e2, e5]
    exact hK C hQ
/-- The end of a function that changes our chain. -/
theorem end_Ch {fn : Func} {Q : Ch → Prop} {C' : Ch} (hr : fn.results.toList = []) (hQ : Q C') (hl : Hp.le (chH F n C') H) : endQ P N fn (postC F n Q) .ret A H :=
  ⟨A, chH F n C', Go.Av.Sub.mk (fun _ _ h => h) hl, by rw [hr]; exact ⟨rfl, C', hQ, rfl⟩⟩
theorem end_Ch' {fn : Func} {Q : Ch → Prop} {C' : Ch} (hr : fn.results.toList = []) (hQ : Q C') (hl : Hp.le (chH F n C') H) : endQ P N fn (postC F n Q) .normal A H :=
  ⟨A, chH F n C', Go.Av.Sub.mk (fun _ _ h => h) hl, by rw [hr]; exact ⟨rfl, C', hQ, rfl⟩⟩
theorem apF_rows {n : Nat} {xs : List (List Int)} {y : List Int} {z : Nat → AV} (hn : n = xs.length) : ∀ i, i < n + 1 → apF n (cM ints [] xs) (setF z 0 (ints y)) i = cM ints [] (xs ++ [y]) i := by
  intro i hi
  subst hn
  simp only [apF, setF, cM_app]
  split
  · rw [getD_append, if_pos (by assumption)]
  · have e : i = xs.length := by omega
    subst e
    rw [if_pos (by omega), getD_append, if_neg (by omega), Nat.sub_self]; rfl
theorem sub_ne_sub {d e i j : Nat} (hi : i < 20) (hj : j < 20) (h : d ≠ e ∨ i ≠ j) : (sub d i == sub e j) = false := beq_eq_false_iff_ne.2 fun e1 => by
  obtain ⟨h1, h2⟩ := sub_inj (show i < FB by rw [FB_eq]; omega) (show j < FB by rw [FB_eq]; omega) e1
  rcases h with h | h
  · exact h h1
  · exact h h2
/-- A generator more, behind the append and the store. -/
theorem setS_awp {c : Code} {Qe : Exit → Fr → Hp → Prop} {p : List Int} {z : Nat → AV} (hF : okF n F) (hn : n ≤ 20) (hl : l < n) (h : AWP P N c Qe A ((chH F n (C.addS l p)).add Hp.emp)) :
    AWP P N c Qe A (((Hp.scrub (fun x => x == sub 1000001 l) (chH F n C)).upd (sub 1000001 l) (.cells ((C.S l).length + 1) (apF (C.S l).length (cM ints [] (C.S l)) (setF z 0 (ints p))))).upd 1000001 (.cells n (setF (scF (fun x => x == sub 1000001 l) (gnF n C)) l (.own (sub 1000001 l) 0 1 ((C.S l).length + 1))))) := by
  refine awp_sub (Go.Av.Sub.fits (fun _ => False) (fun i c hc => ⟨c, hc, .refl c⟩) fun x B' hB => ⟨id, ?_⟩) h
  have hB1 : chH F n (C.addS l p) x = some B' := by
    unfold Hp.add at hB
    cases e : chH F n (C.addS l p) x with
    | none => rw [e] at hB; simp [Hp.emp] at hB
    | some B => rw [e] at hB; exact hB
  have e0 : ∀ x, Hp.scrub (fun x => x == sub 1000001 l) (chH F n C) x = (chH F n C x).map (Blk.scrub (fun x => x == sub 1000001 l)) := fun _ => rfl
  have hS : (C.addS l p).S l = C.S l ++ [p] := Go.Pm.Ch.addS_self C l p
  rcases chH_names hB1 with ⟨rfl, rfl⟩ | ⟨rfl, rfl⟩ | ⟨rfl, rfl⟩ | ⟨i, hi, rfl, rfl⟩ | ⟨i, hi, rfl, rfl⟩
  · refine ⟨.cells 3 F, ?_, BFits.refl _ _ _⟩
    unfold Hp.upd
    rw [if_neg (by decide), if_neg (fun e => (sub_lits _ _).1 e.symm), e0, chH_c]
    simp only [Option.map_some, Blk.scrub, okF_scrub hF (fun x => x == sub 1000001 l) (sl1 _ _) (sl2 _ _)]
  · refine ⟨.cells n (setF (scF (fun x => x == sub 1000001 l) (gnF n C)) l (.own (sub 1000001 l) 0 1 ((C.S l).length + 1))), by unfold Hp.upd; rw [if_pos rfl], rfl, fun i hi => ?_⟩
    by_cases e : i = l
    · subst e
      rw [show setF _ i _ i = _ from if_pos rfl, gnF_app _ hi, hS, List.length_append]; exact .refl _
    · rw [show setF _ l _ i = _ from if_neg e, gnF_app _ hi, Go.Pm.Ch.addS_ne _ _ e]
      unfold scF
      rw [gnF_app _ hi]
      simp only [AV.scrub, sub_ne_sub (show i < 20 by omega) (show l < 20 by omega) (.inr e)]
      exact .refl _
  · refine ⟨.cells n (tnF n), ?_, BFits.refl _ _ _⟩
    unfold Hp.upd
    rw [if_neg (by decide), if_neg (fun e => (sub_lits _ _).2.2 e.symm), e0, chH_t]
    simp only [Option.map_some, Blk.scrub]
    congr 2; funext i; unfold tnF; split
    · simp only [AV.scrub, sub_ne_sub (d := 1000002) (e := 1000001) (show i < 20 by omega) (show l < 20 by omega) (.inl (by decide))]; rfl
    · rfl
  · by_cases e : i = l
    · subst e
      refine ⟨_, by unfold Hp.upd; rw [if_neg (sub_lits _ _).2.1, if_pos rfl], ?_⟩
      rw [hS]
      exact ⟨by simp, fun j hj => by rw [apF_rows rfl j hj]; exact .refl _⟩
    · refine ⟨.cells (C.S i).length (cM ints [] (C.S i)), ?_, by rw [Go.Pm.Ch.addS_ne _ _ e]; exact BFits.refl _ _ _⟩
      unfold Hp.upd
      have := sub_ne_sub (d := 1000001) (e := 1000001) (show i < 20 by omega) (show l < 20 by omega) (.inr e)
      rw [if_neg (sub_lits _ _).2.1, if_neg (beq_eq_false_iff_ne.1 this), e0, chH_gs hi hn]
      rfl
  · refine ⟨.cells n (tF (C.T i)), ?_, BFits.refl _ _ _⟩
    unfold Hp.upd
    have := sub_ne_sub (d := 1000002) (e := 1000001) (show i < 20 by omega) (show l < 20 by omega) (.inl (by decide))
    rw [if_neg (sub_lits _ _).2.1, if_neg (beq_eq_false_iff_ne.1 this), e0, chH_ts hi hn]
    simp only [Option.map_some, Blk.scrub, tF_scrub]
/-- A representative more, behind the store. -/
theorem setT_le {k : Nat} {t : List Int} (hn : n ≤ 20) (hl : l < n) : Hp.le ((chH F n (C.setT l k t)).add R) (((chH F n C).add R).upd (sub 1000002 l) (.cells n (setF (tF (C.T l)) k (ints t)))) := by
  intro x B hB
  unfold Hp.add at hB
  unfold Hp.upd Hp.add
  cases e : chH F n (C.setT l k t) x with
  | none =>
    rw [e] at hB
    have e3 : chH F n C x = none := by
      cases e4 : chH F n C x with
      | none => rfl
      | some B => exact absurd e (chH_ne (C := C.setT l k t) (C' := C) (by rw [e4]; simp))
    have e5 : x ≠ sub 1000002 l := fun h => by rw [h, chH_ts hl hn] at e; simp at e
    rw [if_neg e5, e3]; exact hB
  | some B' =>
    rw [e] at hB
    simp only [Option.some.injEq] at hB
    subst hB
    rcases chH_names e with ⟨rfl, rfl⟩ | ⟨rfl, rfl⟩ | ⟨rfl, rfl⟩ | ⟨i, hi, rfl, rfl⟩ | ⟨i, hi, rfl, rfl⟩
    · rw [if_neg (fun e => (sub_lits _ _).1 e.symm), chH_c]
    · rw [if_neg (fun e => (sub_lits _ _).2.1 e.symm), chH_g]; rfl
    · rw [if_neg (fun e => (sub_lits _ _).2.2 e.symm), chH_t]
    · have := sub_ne_sub (d := 1000001) (e := 1000002) (show i < 20 by omega) (show l < 20 by omega) (.inl (by decide))
      rw [if_neg (beq_eq_false_iff_ne.1 this), chH_gs hi hn]; rfl
    · by_cases h : i = l
      · subst h
        rw [if_pos rfl]
        congr 2
        funext y
        unfold setF tF
        rw [Go.Pm.Ch.setT_self]
        by_cases hy : y = k
        · subst hy; simp
        · rw [if_neg hy, if_neg hy]
      · have := sub_ne_sub (d := 1000002) (e := 1000002) (show i < 20 by omega) (show l < 20 by omega) (.inr h)
        rw [if_neg (beq_eq_false_iff_ne.1 this), chH_ts hi hn, Go.Pm.Ch.setT_ne _ _ _ h]
theorem setT_awp {c : Code} {Qe : Exit → Fr → Hp → Prop} {k : Nat} {t : List Int} (hn : n ≤ 20) (hl : l < n) (h : AWP P N c Qe A ((chH F n (C.setT l k t)).add R)) :
    AWP P N c Qe A (((chH F n C).add R).upd (sub 1000002 l) (.cells n (setF (tF (C.T l)) k (ints t)))) :=
  awp_sub (Go.Av.Sub.mk (fun _ _ h => h) (setT_le hn hl)) h
theorem chA_upd {h : Nat} {B : Blk} (hh : h < 1000000) : ((chH F n C).add R).upd h B = (chH F n C).add (R.upd h B) := by
  funext x
  unfold Hp.upd Hp.add
  by_cases e : x = h
  · subst e; rw [chH_low hh]
  · simp only [if_neg e]
theorem chA_scrub {h : Nat} (hF : okF n F) (hn : n ≤ 20) (hh : h < 1000000) : ((chH F n C).add R).scrub (fun x => x == h) = (chH F n C).add (R.scrub (fun x => x == h)) := by
  have h1 : ∀ d i, (sub d i == h) = false := fun d i => beq_eq_false_iff_ne.2 fun e => by have := sub_ge d i; rw [FB_eq] at this; omega
  have e1 := chH_scrub (C := C) hF hn (fun x => x == h) (beq_eq_false_iff_ne.2 (by omega)) (beq_eq_false_iff_ne.2 (by omega)) (fun i _ => h1 _ i) (fun i _ => h1 _ i)
  funext x
  have := congrFun e1 x
  unfold Hp.scrub at this ⊢
  unfold Hp.add
  cases e : chH F n C x with
  | none => rfl
  | some B => rw [e] at this; exact this
end
end Go.Proofs.YtpffmolibjimgaaGreatDoor
end
/- The program extends a chain. -/
section
namespace Go.Proofs.YtpffmolibjimgaaGreatDoor
open Go.Av
set_option linter.unusedSimpArgs false
set_option linter.unusedVariables false
attribute [local irreducible] AWP CallG Ob Br BrP Go.Av.Sub endQ AOps OpV AC thenA blkA opsVC opVC withA withArgs opsQ opQ CallQ withA2 withArgs2
open Go.Pm (Pm comp invp idn img Ch fixB Ph1 Ph2)

theorem tz : Int.toNat 0 = 0 := rfl
theorem t1' : Int.toNat 1 = 1 := rfl
theorem implAdd_end (n : Nat) (hn : n ≤ 20) (l : Nat) (C : Ch) (p : List Int) (hl : l ≤ n) (hw : C.WF n) (hF : C.Full n l) (hp : Pm n p) (hh : C.has (n - l) l p = true) :
    AC Tryz.prog 96 [.ref 1000000 0, .v (.int .i64 (l)), ints p] (chH (kI n) n C) (pnC l) (postC (kI n) n (Ch.Add n l C p)) := by
  refine ac_of_awp (N := ⟨_, pnC (l), fun h hh => pnC_low (Nat.lt_of_lt_of_le hh (by decide)), true⟩) Tryz.func96 rfl (by kernel_rfl) Tryz.ntmps96 (by simp) ?_
  simp only [argsFr, List.zipIdx_cons, List.zipIdx_nil, go_sem]
  repeat' (first | refine awp_seqK fun K hK => ?_ | (refine awp_regionK 38038802559503246140721691121351 rfl ?_; simp only [List.map_cons, List.map_nil]; simp (maxSteps := 1000000) (dsimp := false) (implicitDefEqProofs := false) (disch := omega) only [wrap64, go_sem, hh]) | (refine awp_regionQK 38038802559503246140721691121351 (by kernel_rfl) (by kernel_rfl) (by kernel_rfl) ?_; simp only [List.map_cons, List.map_nil]; simp (maxSteps := 1000000) (dsimp := false) (implicitDefEqProofs := false) (disch := omega) only [wrap64, go_sem, hh]) | refine awp_block ?_ | (refine awp_skip ?_; simp only [go_sem, hh]) | (refine awp_exit ?_; simp only [go_sem, hh]) | (refine awp_ret ?_; try simp only [go_sem, hh]) | (refine awp_condP rfl ?_; try simp only [go_sem, hh]) | (refine BrP.mk (fun h => ?_) (fun h => ?_) <;> try simp (dsimp := false) (disch := omega) only [wrap64]) | (refine Br.mk (fun h => ?_) (fun h => ?_) <;> try simp (dsimp := false) (disch := omega) only [wrap64]) | refine Ob.mk (by first | omega | (intro _ _; rfl) | trivial | (intros; trivial) | assumption | (intro i hi; have h0 : i = 0 := (by omega); subst h0; first | rfl | trivial) | (intro i hi; have h0 : i = 0 ∨ i = 1 := (by omega); rcases h0 with rfl | rfl <;> rfl) | (intro i hi; have h0 : i = 0 ∨ i = 1 ∨ i = 2 := (by omega); rcases h0 with rfl | rfl | rfl <;> rfl)) ?_ | ((first | (refine cV (hfit := .cons (fits_chI (Hp.le_refl _) hn (fun _ => trivial)) (.refl _)) (hac := has_ok n C l p hn hl hw hp) (hK := ?_))); simp (maxSteps := 1000000) (dsimp := false) (implicitDefEqProofs := false) (disch := omega) only [wrap64, go_sem, hh]) | apply_assumption -exfalso -symm)
  all_goals (first | (show endQ _ _ _ _ _ _ _; (repeat (rename (∀ (A : Fr) (H : Hp), AWP _ _ _ _ A H → _) => hK; clear hK)); (repeat (rename (Fr → Hp → Prop) => K; clear K))) | (show Exists _; (repeat (rename (∀ (A : Fr) (H : Hp), AWP _ _ _ _ A H → _) => hK; clear hK)); (repeat (rename (Fr → Hp → Prop) => K; clear K))) | skip)
  · exact end_Ch rfl (Ch.Add.none hw hF hh) (Hp.le_refl _)
theorem implAdd_step (n : Nat) (hn : n ≤ 20) (l : Nat) (C : Ch) (p : List Int) (hl : l < n) (hw : C.WF n) (hF : C.Full n l) (hI : C.Ind n) (hp : Pm n p) (hf : fixB l p)
    (ih : ∀ (C : Ch) (p : List Int), C.WF n → C.Full n (l + 1) → C.Ind n → Pm n p → fixB (l + 1) p → AC Tryz.prog 96 [.ref 1000000 0, .v (.int .i64 ((l : Int) + 1)), ints p] (chH (kI n) n C) (pnC (l + 1)) (postC (kI n) n (Ch.Add n (l + 1) C p))) :
    AC Tryz.prog 96 [.ref 1000000 0, .v (.int .i64 (l)), ints p] (chH (kI n) n C) (pnC l) (postC (kI n) n (Ch.Add n l C p)) := by
  have hok : okF n (kI n) := .inl rfl
  have hpc : pnC l (sub 1000001 l) = false := pnC_gs (by omega) (Nat.le_refl _)
  have hsh := (Ch.Ind.short hw hI hn hl : (C.S l).length ≤ 86)
  have hsc : scF (fun x => x == sub 1000001 l) (kI n) = kI n := okF_scrub hok _ (sl1 _ _) (sl2 _ _)
  have hI' : Hold (C.Ind n) := ⟨hI⟩
  clear hI
  obtain ⟨C1, hC1⟩ : ∃ C1, C1 = C.addS l p := ⟨_, rfl⟩
  have hT1 : ∀ y t, y < n → C1.T l y = some t → 0 < t.length := fun y t _ ht => by
    subst hC1; have := (hw.t1 l y t hl ht).1.1; omega
  refine ac_of_awp (N := ⟨_, pnC (l), fun h hh => pnC_low (Nat.lt_of_lt_of_le hh (by decide)), true⟩) Tryz.func96 rfl (by kernel_rfl) Tryz.ntmps96 (by simp) ?_
  simp only [argsFr, List.zipIdx_cons, List.zipIdx_nil, go_sem]
  repeat' (first | (refine setS_awp hok hn hl ?_; rw [← hC1]) | (refine awp_regionPK 38038802559503246140721691121351 5 14 (by kernel_rfl) (by kernel_rfl) (by kernel_rfl) ?_; simp only [List.map_cons, List.map_nil, opsP, List.take_succ_cons, List.take_zero, List.drop_succ_cons, List.drop_zero]; simp (maxSteps := 1000000) (dsimp := false) (implicitDefEqProofs := false) (disch := omega) only [wrap64, go_sem, chH_c, chH_g, chH_t, gnF_app, tnF_app, chH_gs, chH_ts, kI0, kI1, kI2, sl0, sl1, sl2, sn0, sn1, sn2, hpc, hs_c, hs_g, hsc, chA_c, chA_g, chA_t, chA_gs, chA_ts, chA_low, chA_upd, chA_scrub, sub_lowb, sub_lowe]) | refine awp_seqK fun K hK => ?_ | (refine awp_regionK 38038802559503246140721691121351 rfl ?_; simp only [List.map_cons, List.map_nil]; simp (maxSteps := 1000000) (dsimp := false) (implicitDefEqProofs := false) (disch := omega) only [wrap64, go_sem, chH_c, chH_g, chH_t, gnF_app, tnF_app, chH_gs, chH_ts, kI0, kI1, kI2, sl0, sl1, sl2, sn0, sn1, sn2, hpc, hs_c, hs_g, hsc, chA_c, chA_g, chA_t, chA_gs, chA_ts, chA_low, chA_upd, chA_scrub, sub_lowb, sub_lowe]) | (refine awp_regionQK 38038802559503246140721691121351 (by kernel_rfl) (by kernel_rfl) (by kernel_rfl) ?_; simp only [List.map_cons, List.map_nil]; simp (maxSteps := 1000000) (dsimp := false) (implicitDefEqProofs := false) (disch := omega) only [wrap64, go_sem, chH_c, chH_g, chH_t, gnF_app, tnF_app, chH_gs, chH_ts, kI0, kI1, kI2, sl0, sl1, sl2, sn0, sn1, sn2, hpc, hs_c, hs_g, hsc, chA_c, chA_g, chA_t, chA_gs, chA_ts, chA_low, chA_upd, chA_scrub, sub_lowb, sub_lowe]) | refine awp_block ?_ | (refine awp_skip ?_; simp only [go_sem, chH_c, chH_g, chH_t, gnF_app, tnF_app, chH_gs, chH_ts, kI0, kI1, kI2, sl0, sl1, sl2, sn0, sn1, sn2, hpc, hs_c, hs_g, hsc, chA_c, chA_g, chA_t, chA_gs, chA_ts, chA_low, chA_upd, chA_scrub, sub_lowb, sub_lowe]) | (refine awp_exit ?_; simp only [go_sem, chH_c, chH_g, chH_t, gnF_app, tnF_app, chH_gs, chH_ts, kI0, kI1, kI2, sl0, sl1, sl2, sn0, sn1, sn2, hpc, hs_c, hs_g, hsc, chA_c, chA_g, chA_t, chA_gs, chA_ts, chA_low, chA_upd, chA_scrub, sub_lowb, sub_lowe]) | (refine awp_ret ?_; try simp only [go_sem, chH_c, chH_g, chH_t, gnF_app, tnF_app, chH_gs, chH_ts, kI0, kI1, kI2, sl0, sl1, sl2, sn0, sn1, sn2, hpc, hs_c, hs_g, hsc, chA_c, chA_g, chA_t, chA_gs, chA_ts, chA_low, chA_upd, chA_scrub, sub_lowb, sub_lowe]) | (refine awp_condP rfl ?_; try simp only [go_sem, chH_c, chH_g, chH_t, gnF_app, tnF_app, chH_gs, chH_ts, kI0, kI1, kI2, sl0, sl1, sl2, sn0, sn1, sn2, hpc, hs_c, hs_g, hsc, chA_c, chA_g, chA_t, chA_gs, chA_ts, chA_low, chA_upd, chA_scrub, sub_lowb, sub_lowe]) | (refine BrP.mk (fun h => ?_) (fun h => ?_) <;> try simp (dsimp := false) (disch := omega) only [wrap64]) | (refine Br.mk (fun h => ?_) (fun h => ?_) <;> try simp (dsimp := false) (disch := omega) only [wrap64]) | refine Ob.mk (by first | omega | (intro _ _; rfl) | trivial | (intros; trivial) | assumption | (intro i hi; have h0 : i = 0 := (by omega); subst h0; first | rfl | trivial) | (intro i hi; have h0 : i = 0 ∨ i = 1 := (by omega); rcases h0 with rfl | rfl <;> rfl) | (intro i hi; have h0 : i = 0 ∨ i = 1 ∨ i = 2 := (by omega); rcases h0 with rfl | rfl | rfl <;> rfl)) ?_ | ((first | (refine cV (hfit := .cons (fits_chI (Hp.le_refl _) hn (fun _ => trivial)) (.refl _)) (hac := has_ok n C l p hn (by omega) hw hp) (hK := ?_)) | ((first | refine atF (f := 97) ?_ | refine atQ (f := 97) ?_); refine cI (hd := pnC_low (l := l) (h := 30) (by decide)) (hfit := .cons (fits_row (chA_ts (by omega) hn) trivial) .nil) (hac := orbitOf_ok n (C1.T l) hn hT1 30) (hK := ?_))); simp (maxSteps := 1000000) (dsimp := false) (implicitDefEqProofs := false) (disch := omega) only [wrap64, go_sem, chH_c, chH_g, chH_t, gnF_app, tnF_app, chH_gs, chH_ts, kI0, kI1, kI2, sl0, sl1, sl2, sn0, sn1, sn2, hpc, hs_c, hs_g, hsc, chA_c, chA_g, chA_t, chA_gs, chA_ts, chA_low, chA_upd, chA_scrub, sub_lowb, sub_lowe]) | apply_assumption -exfalso -symm)
  all_goals (first | (show endQ _ _ _ _ _ _ _; (repeat (rename (∀ (A : Fr) (H : Hp), AWP _ _ _ _ A H → _) => hK; clear hK)); (repeat (rename (Fr → Hp → Prop) => K; clear K))) | (show Exists _; (repeat (rename (∀ (A : Fr) (H : Hp), AWP _ _ _ _ A H → _) => hK; clear hK)); (repeat (rename (Fr → Hp → Prop) => K; clear K))) | skip)
  · exact end_Ch rfl (Ch.Add.none hw hF (by assumption)) (Hp.le_refl _)
  · refine awp_loop (ι := Ch × List Int × List Int) (fun x => [(7, .own 30 x.2.1.length 1 x.2.2.length), (6, .own (sub 1000002 l) 0 1 n), (1, .v (.int .i64 (l))), (0, .ref 1000000 0)]) (fun x => (chH (kI n) n x.1).add (Hp.emp.upd 30 (.cells (x.2.1 ++ x.2.2).length (cM iv 0 (x.2.1 ++ x.2.2))))) (fun x => Ph1 n l C1 x.1 x.2.2 ∧ (n - x.1.cnt n l) + x.2.2.length ≤ 40) (fun x => (n - x.1.cnt n l) + x.2.2.length) (C1, [], orb (C1.T l) n) ?_ (Sub.toL (by simp only [go_sem] <;> first | trivial | (simp only [Option.some.injEq, AV.v.injEq, AV.own.injEq, AV.list.injEq, Value.int.injEq, Value.bool.injEq, true_and, and_true]; first | omega | (simp [List.length_nil]; done)) | (simp [List.length_nil]; done) | (simp [List.length_nil]; omega)) (Hp.le_refl _)) ?_
    · subst hC1
      refine ⟨Ph1.init hw hF hl hp hf fun x => ?_, by have := orb_length ((C.addS l p).T l) n; dsimp only; omega⟩
      show x ∈ orb (C.T l) n ↔ _
      rw [orb_mem]
      constructor
      · rintro ⟨y, h1, h2, h3⟩; exact ⟨y, h1, h3, h2⟩
      · rintro ⟨y, h1, h2, h3⟩; exact ⟨y, h1, h3, h2⟩
    rintro ⟨Cq, pre, q⟩ ⟨hP, hM⟩
    dsimp only at hP hM ⊢
    have hl1 : 0 + ((l : Nat) : Int).toNat * 1 = l := by simp
    have hSq : Cq.S l = C1.S l := by rw [hP.eS]
    have hSh : (C1.S l).length ≤ 87 := by rw [hC1, Ch.addS_self, List.length_append]; simp; omega
    have hgp : ∀ g, g ∈ C1.S l → Pm n g := fun g hg => hP.wf.gpm l g (by rw [hSq]; exact hg)
    have hgm : ∀ m, m < (C1.S l).length → (C1.S l).getD m [] ∈ C1.S l := fun m hm => by
      rw [List.getD_eq_getElem?_getD, List.getElem?_eq_getElem hm]; exact List.getElem_mem _
    cases q with
    | nil =>
      have hTq : ∀ y t, y < n → Cq.T l y = some t → 0 < t.length := fun y t _ ht => by have := (hP.wf.t1 l y t hl ht).1.1; omega
      repeat' (first | refine awp_seqK fun K hK => ?_ | (refine awp_regionK 38038802559503246140721691121351 rfl ?_; simp only [List.map_cons, List.map_nil]; simp (maxSteps := 1000000) (dsimp := false) (implicitDefEqProofs := false) (disch := omega) only [wrap64, go_sem, hSq, chH_c, chH_g, chH_t, gnF_app, tnF_app, chH_gs, chH_ts, kI0, kI1, kI2, sl0, sl1, sl2, sn0, sn1, sn2, chA_c, chA_g, chA_t, chA_gs, chA_ts, chA_low, chA_upd, chA_scrub, sub_lowb, sub_lowe]) | (refine awp_regionQK 38038802559503246140721691121351 (by kernel_rfl) (by kernel_rfl) (by kernel_rfl) ?_; simp only [List.map_cons, List.map_nil]; simp (maxSteps := 1000000) (dsimp := false) (implicitDefEqProofs := false) (disch := omega) only [wrap64, go_sem, hSq, chH_c, chH_g, chH_t, gnF_app, tnF_app, chH_gs, chH_ts, kI0, kI1, kI2, sl0, sl1, sl2, sn0, sn1, sn2, chA_c, chA_g, chA_t, chA_gs, chA_ts, chA_low, chA_upd, chA_scrub, sub_lowb, sub_lowe]) | refine awp_block ?_ | (refine awp_skip ?_; simp only [go_sem, hSq, chH_c, chH_g, chH_t, gnF_app, tnF_app, chH_gs, chH_ts, kI0, kI1, kI2, sl0, sl1, sl2, sn0, sn1, sn2, chA_c, chA_g, chA_t, chA_gs, chA_ts, chA_low, chA_upd, chA_scrub, sub_lowb, sub_lowe]) | (refine awp_exit ?_; simp only [go_sem, hSq, chH_c, chH_g, chH_t, gnF_app, tnF_app, chH_gs, chH_ts, kI0, kI1, kI2, sl0, sl1, sl2, sn0, sn1, sn2, chA_c, chA_g, chA_t, chA_gs, chA_ts, chA_low, chA_upd, chA_scrub, sub_lowb, sub_lowe]) | (refine awp_ret ?_; try simp only [go_sem, hSq, chH_c, chH_g, chH_t, gnF_app, tnF_app, chH_gs, chH_ts, kI0, kI1, kI2, sl0, sl1, sl2, sn0, sn1, sn2, chA_c, chA_g, chA_t, chA_gs, chA_ts, chA_low, chA_upd, chA_scrub, sub_lowb, sub_lowe]) | (refine awp_condP rfl ?_; try simp only [go_sem, hSq, chH_c, chH_g, chH_t, gnF_app, tnF_app, chH_gs, chH_ts, kI0, kI1, kI2, sl0, sl1, sl2, sn0, sn1, sn2, chA_c, chA_g, chA_t, chA_gs, chA_ts, chA_low, chA_upd, chA_scrub, sub_lowb, sub_lowe]) | (refine BrP.mk (fun h => ?_) (fun h => ?_) <;> try simp (dsimp := false) (disch := omega) only [wrap64]) | (refine Br.mk (fun h => ?_) (fun h => ?_) <;> try simp (dsimp := false) (disch := omega) only [wrap64]) | refine Ob.mk (by first | omega | (intro _ _; rfl) | trivial | (intros; trivial) | assumption | (intro i hi; have h0 : i = 0 := (by omega); subst h0; first | rfl | trivial) | (intro i hi; have h0 : i = 0 ∨ i = 1 := (by omega); rcases h0 with rfl | rfl <;> rfl) | (intro i hi; have h0 : i = 0 ∨ i = 1 ∨ i = 2 := (by omega); rcases h0 with rfl | rfl | rfl <;> rfl)) ?_ | ((first | ((first | refine atF (f := 97) ?_ | refine atQ (f := 97) ?_); refine cFI (hfit := .cons (fits_row (chA_ts (by omega) hn) trivial) .nil) (hac := orbitOf_ok n (Cq.T l) hn hTq 31) (hK := ?_))); simp (maxSteps := 1000000) (dsimp := false) (implicitDefEqProofs := false) (disch := omega) only [wrap64, go_sem, hSq, chH_c, chH_g, chH_t, gnF_app, tnF_app, chH_gs, chH_ts, kI0, kI1, kI2, sl0, sl1, sl2, sn0, sn1, sn2, chA_c, chA_g, chA_t, chA_gs, chA_ts, chA_low, chA_upd, chA_scrub, sub_lowb, sub_lowe]) | apply_assumption -exfalso -symm)
      all_goals (first | (show endQ _ _ _ _ _ _ _; (repeat (rename (∀ (A : Fr) (H : Hp), AWP _ _ _ _ A H → _) => hK; clear hK)); (repeat (rename (Fr → Hp → Prop) => K; clear K))) | (show Exists _; (repeat (rename (∀ (A : Fr) (H : Hp), AWP _ _ _ _ A H → _) => hK; clear hK)); (repeat (rename (Fr → Hp → Prop) => K; clear K))) | skip)
      · exfalso; omega
      have hSl : (Cq.S l).length ≤ 87 := by rw [hSq]; exact hSh
      have hol := orb_length (Cq.T l) n
      have hInd : (C.addS l p).Ind n := hI'.h.addS hw hF hl hp hf (by assumption)
      have hQ : Ph2 n l Cq Cq := Ph2.init hw hF hl hp hf hInd (hC1 ▸ hP)
      have hOr : ∀ i, i < (orb (Cq.T l) n).length → ∃ y t, y < n ∧ Cq.T l y = some t ∧ (orb (Cq.T l) n).getD i 0 = ((y : Nat) : Int) := fun i hi => by
        have h1 : (orb (Cq.T l) n).getD i 0 ∈ orb (Cq.T l) n := by
          rw [List.getD_eq_getElem?_getD, List.getElem?_eq_getElem hi]; exact List.getElem_mem _
        obtain ⟨y, h2, h3, h4⟩ := orb_mem.1 h1
        obtain ⟨t, ht⟩ := Option.isSome_iff_exists.1 h3
        exact ⟨y, t, h2, ht, h4⟩
      refine awp_loop (ι := Ch × Nat) (fun x => [(91, .v (.int .i64 (x.2))), (90, .v (.int .i64 ((orb (Cq.T l) n).length))), (89, .list false 1 (orb (Cq.T l) n).length (cM iv 0 (orb (Cq.T l) n))), (6, .own (sub 1000002 l) 0 1 n), (1, .v (.int .i64 (l))), (0, .ref 1000000 0)]) (fun x => (chH (kI n) n x.1).add Hp.emp)
        (fun x => x.2 ≤ (orb (Cq.T l) n).length ∧ Ph2 n l Cq x.1 ∧ ∀ i, i < x.2 → ∀ g, g ∈ Cq.S l → x.1.has (n - (l + 1)) (l + 1) (Cq.quo l ((orb (Cq.T l) n).getD i 0).toNat g) = true)
        (fun x => (orb (Cq.T l) n).length - x.2) (Cq, 0) ⟨Nat.zero_le _, hQ, fun i hi => absurd hi (Nat.not_lt_zero i)⟩ (Sub.toL (by simp only [go_sem] <;> first | trivial | (simp only [Option.some.injEq, AV.v.injEq, AV.own.injEq, AV.list.injEq, Value.int.injEq, Value.bool.injEq, true_and, and_true]; first | omega | (simp; done)) | (simp; done) | (simp; omega)) (add_le (Hp.le_emp _))) ?_
      rintro ⟨C3, a⟩ ⟨ha, hQ3, hd3⟩
      dsimp only at ha hQ3 hd3 ⊢
      have hS3 : C3.S l = Cq.S l := hQ3.eS l (Nat.le_refl _)
      obtain ⟨y, t, hyt⟩ : ∃ (y : Nat) (t : List Int), a < (orb (Cq.T l) n).length → y < n ∧ Cq.T l y = some t ∧ (orb (Cq.T l) n).getD a 0 = ((y : Nat) : Int) := by
        by_cases h : a < (orb (Cq.T l) n).length
        · obtain ⟨y, t, h⟩ := hOr a h; exact ⟨y, t, fun _ => h⟩
        · exact ⟨0, [], fun h' => absurd h' h⟩
      have hya : a < (orb (Cq.T l) n).length → (orb (Cq.T l) n).getD a 0 = ((y : Nat) : Int) := fun h => (hyt h).2.2
      repeat' (first | refine awp_seqK fun K hK => ?_ | (refine awp_regionK 38038802559503246140721691121351 rfl ?_; simp only [List.map_cons, List.map_nil]; simp (maxSteps := 1000000) (dsimp := false) (implicitDefEqProofs := false) (disch := omega) only [wrap64, go_sem, hS3, hya, chH_c, chH_g, chH_t, gnF_app, tnF_app, chH_gs, chH_ts, kI0, kI1, kI2, sl0, sl1, sl2, sn0, sn1, sn2, chA_c, chA_g, chA_t, chA_gs, chA_ts, chA_low, chA_upd, chA_scrub, sub_lowb, sub_lowe]) | (refine awp_regionQK 38038802559503246140721691121351 (by kernel_rfl) (by kernel_rfl) (by kernel_rfl) ?_; simp only [List.map_cons, List.map_nil]; simp (maxSteps := 1000000) (dsimp := false) (implicitDefEqProofs := false) (disch := omega) only [wrap64, go_sem, hS3, hya, chH_c, chH_g, chH_t, gnF_app, tnF_app, chH_gs, chH_ts, kI0, kI1, kI2, sl0, sl1, sl2, sn0, sn1, sn2, chA_c, chA_g, chA_t, chA_gs, chA_ts, chA_low, chA_upd, chA_scrub, sub_lowb, sub_lowe]) | refine awp_block ?_ | (refine awp_skip ?_; simp only [go_sem, hS3, hya, chH_c, chH_g, chH_t, gnF_app, tnF_app, chH_gs, chH_ts, kI0, kI1, kI2, sl0, sl1, sl2, sn0, sn1, sn2, chA_c, chA_g, chA_t, chA_gs, chA_ts, chA_low, chA_upd, chA_scrub, sub_lowb, sub_lowe]) | (refine awp_exit ?_; simp only [go_sem, hS3, hya, chH_c, chH_g, chH_t, gnF_app, tnF_app, chH_gs, chH_ts, kI0, kI1, kI2, sl0, sl1, sl2, sn0, sn1, sn2, chA_c, chA_g, chA_t, chA_gs, chA_ts, chA_low, chA_upd, chA_scrub, sub_lowb, sub_lowe]) | (refine awp_ret ?_; try simp only [go_sem, hS3, hya, chH_c, chH_g, chH_t, gnF_app, tnF_app, chH_gs, chH_ts, kI0, kI1, kI2, sl0, sl1, sl2, sn0, sn1, sn2, chA_c, chA_g, chA_t, chA_gs, chA_ts, chA_low, chA_upd, chA_scrub, sub_lowb, sub_lowe]) | (refine awp_condP rfl ?_; try simp only [go_sem, hS3, hya, chH_c, chH_g, chH_t, gnF_app, tnF_app, chH_gs, chH_ts, kI0, kI1, kI2, sl0, sl1, sl2, sn0, sn1, sn2, chA_c, chA_g, chA_t, chA_gs, chA_ts, chA_low, chA_upd, chA_scrub, sub_lowb, sub_lowe]) | (refine BrP.mk (fun h => ?_) (fun h => ?_) <;> try simp (dsimp := false) (disch := omega) only [wrap64]) | (refine Br.mk (fun h => ?_) (fun h => ?_) <;> try simp (dsimp := false) (disch := omega) only [wrap64]) | refine Ob.mk (by first | omega | (intro _ _; rfl) | trivial | (intros; trivial) | assumption | (intro i hi; have h0 : i = 0 := (by omega); subst h0; first | rfl | trivial) | (intro i hi; have h0 : i = 0 ∨ i = 1 := (by omega); rcases h0 with rfl | rfl <;> rfl) | (intro i hi; have h0 : i = 0 ∨ i = 1 ∨ i = 2 := (by omega); rcases h0 with rfl | rfl | rfl <;> rfl)) ?_ | apply_assumption -exfalso -symm)
      all_goals (first | (show endQ _ _ _ _ _ _ _; (repeat (rename (∀ (A : Fr) (H : Hp), AWP _ _ _ _ A H → _) => hK; clear hK)); (repeat (rename (Fr → Hp → Prop) => K; clear K))) | (show Exists _; (repeat (rename (∀ (A : Fr) (H : Hp), AWP _ _ _ _ A H → _) => hK; clear hK)); (repeat (rename (Fr → Hp → Prop) => K; clear K))) | skip)
      · have hal : a < (orb (Cq.T l) n).length := by omega
        obtain ⟨hy, ht, hyo⟩ := hyt hal
        have hTFy : tF (Cq.T l) y = .list false 1 t.length (cM iv 0 t) := tF_some ht
        obtain ⟨ht1, ht2, ht3⟩ := hP.wf.t1 l y t hl ht
        have htl := ht1.1
        refine awp_loop (ι := Ch × Nat) (fun x => [(103, .v (.int .i64 (x.2))), (102, .v (.int .i64 ((Cq.S l).length))), (101, .own (sub 1000001 l) 0 1 (Cq.S l).length), (12, .v (.int .i64 (y))), (91, .v (.int .i64 (a))), (90, .v (.int .i64 ((orb (Cq.T l) n).length))), (89, .list false 1 (orb (Cq.T l) n).length (cM iv 0 (orb (Cq.T l) n))), (6, .own (sub 1000002 l) 0 1 n), (1, .v (.int .i64 (l))), (0, .ref 1000000 0)]) (fun x => (chH (kI n) n x.1).add Hp.emp)
          (fun x => x.2 ≤ (Cq.S l).length ∧ Ph2 n l Cq x.1 ∧ (∀ i, i < a → ∀ g, g ∈ Cq.S l → x.1.has (n - (l + 1)) (l + 1) (Cq.quo l ((orb (Cq.T l) n).getD i 0).toNat g) = true) ∧ ∀ j, j < x.2 → x.1.has (n - (l + 1)) (l + 1) (Cq.quo l y ((Cq.S l).getD j [])) = true)
          (fun x => (Cq.S l).length - x.2) (C3, 0) ⟨Nat.zero_le _, hQ3, hd3, fun i hi => absurd hi (Nat.not_lt_zero i)⟩ (Sub.toL (by simp only [go_sem] <;> first | trivial | (simp only [Option.some.injEq, AV.v.injEq, AV.own.injEq, AV.list.injEq, Value.int.injEq, Value.bool.injEq, true_and, and_true]; first | omega | (simp; done)) | (simp; done) | (simp; omega)) (Hp.le_refl _)) ?_
        rintro ⟨C4, b⟩ ⟨hb, hQ4, hd4, he4⟩
        dsimp only at hb hQ4 hd4 he4 ⊢
        have hS4 : C4.S l = Cq.S l := hQ4.eS l (Nat.le_refl _)
        have hT4 : C4.T l = Cq.T l := hQ4.eT l (Nat.le_refl _)
        have hgq : b < (Cq.S l).length → (Cq.S l).getD b [] ∈ Cq.S l := fun h => by
          rw [List.getD_eq_getElem?_getD, List.getElem?_eq_getElem h]; exact List.getElem_mem _
        have hg1 : b < (Cq.S l).length → Pm n ((Cq.S l).getD b []) := fun h => hP.wf.gpm l _ (hgq h)
        have hgl : b < (Cq.S l).length → ((Cq.S l).getD b []).length = n := fun h => (hg1 h).1
        have hgb : b < (Cq.S l).length → 0 ≤ ((Cq.S l).getD b []).getD y 0 ∧ ((Cq.S l).getD b []).getD y 0 < n := fun h => (hg1 h).2.1 y hy
        obtain ⟨u, hu⟩ : ∃ u, b < (Cq.S l).length → Cq.T l (img ((Cq.S l).getD b []) y) = some u := by
          by_cases h : b < (Cq.S l).length
          · obtain ⟨u, hu⟩ := Option.isSome_iff_exists.1 (hQ.cl y _ (by rw [ht]; rfl) (hgq h)); exact ⟨u, fun _ => hu⟩
          · exact ⟨[], fun h' => absurd h' h⟩
        have hTFu : b < (Cq.S l).length → tF (Cq.T l) (((Cq.S l).getD b []).getD y 0).toNat = .list false 1 u.length (cM iv 0 u) := fun h => tF_some (hu h)
        have hu1 : b < (Cq.S l).length → Pm n u := fun h => (hP.wf.t1 l _ u hl (hu h)).1
        have hul : b < (Cq.S l).length → u.length = n := fun h => (hu1 h).1
        have hquo : b < (Cq.S l).length → Cq.quo l y ((Cq.S l).getD b []) = comp (comp t ((Cq.S l).getD b [])) (invp u) := fun h => by
          unfold Ch.quo; rw [ht, hu h]; rfl
        have hqf : b < (Cq.S l).length → _ := fun h => hQ4.quo_fix hl (y := y) (g := (Cq.S l).getD b []) (by rw [ht]; rfl) (hgq h)
        have hac4 : b < (Cq.S l).length → AC Tryz.prog 96 [.ref 1000000 0, .v (.int .i64 ((l : Int) + 1)), ints (comp (comp t ((Cq.S l).getD b [])) (invp u))] (chH (kI n) n C4) (pnC (l + 1)) (postC (kI n) n (Ch.Add n (l + 1) C4 (Cq.quo l y ((Cq.S l).getD b [])))) := fun h => by
          have := ih C4 (Cq.quo l y ((Cq.S l).getD b [])) hQ4.wf hQ4.full hQ4.ind (hqf h).1 (hqf h).2.1
          rw [hquo h] at this ⊢
          exact this
        have hkeep : ∀ C5, Ch.Add n (l + 1) C4 (Cq.quo l y ((Cq.S l).getD b [])) C5 → ∀ i, i < a → ∀ g, g ∈ Cq.S l → C5.has (n - (l + 1)) (l + 1) (Cq.quo l ((orb (Cq.T l) n).getD i 0).toNat g) = true := fun C5 hA i hi g hg => by
          obtain ⟨z, tz, _, hz2, hz3⟩ := hOr i (by omega)
          have hd := hd4 i hi g hg
          rw [hz3, Int.toNat_natCast] at hd ⊢
          have hq := hQ4.quo_fix hl (y := z) (g := g) (by rw [hz2]; rfl) hg
          exact hQ4.keep hl hA hq.1 hq.2.1 hd
        repeat' (first | (refine awp_regionEK 38038802559503246140721691121351 18 (by kernel_rfl) (by kernel_rfl) (by kernel_rfl) ?_; simp only [List.map_cons, List.map_nil, opsE, List.take_succ_cons, List.take_zero, List.drop_succ_cons, List.drop_zero]; simp (maxSteps := 1000000) (dsimp := false) (implicitDefEqProofs := false) (disch := omega) only [wrap64, go_sem, hS4, hT4, hTFy, hTFu, chH_c, chH_g, chH_t, gnF_app, tnF_app, chH_gs, chH_ts, kI0, kI1, kI2, sl0, sl1, sl2, sn0, sn1, sn2, chA_c, chA_g, chA_t, chA_gs, chA_ts, chA_low, chA_upd, chA_scrub, sub_lowb, sub_lowe, pX_low, pX_ts, pX_gs]) | refine awp_seqK fun K hK => ?_ | (refine awp_regionK 38038802559503246140721691121351 rfl ?_; simp only [List.map_cons, List.map_nil]; simp (maxSteps := 1000000) (dsimp := false) (implicitDefEqProofs := false) (disch := omega) only [wrap64, go_sem, hS4, hT4, hTFy, hTFu, chH_c, chH_g, chH_t, gnF_app, tnF_app, chH_gs, chH_ts, kI0, kI1, kI2, sl0, sl1, sl2, sn0, sn1, sn2, chA_c, chA_g, chA_t, chA_gs, chA_ts, chA_low, chA_upd, chA_scrub, sub_lowb, sub_lowe, pX_low, pX_ts, pX_gs]) | (refine awp_regionQK 38038802559503246140721691121351 (by kernel_rfl) (by kernel_rfl) (by kernel_rfl) ?_; simp only [List.map_cons, List.map_nil]; simp (maxSteps := 1000000) (dsimp := false) (implicitDefEqProofs := false) (disch := omega) only [wrap64, go_sem, hS4, hT4, hTFy, hTFu, chH_c, chH_g, chH_t, gnF_app, tnF_app, chH_gs, chH_ts, kI0, kI1, kI2, sl0, sl1, sl2, sn0, sn1, sn2, chA_c, chA_g, chA_t, chA_gs, chA_ts, chA_low, chA_upd, chA_scrub, sub_lowb, sub_lowe, pX_low, pX_ts, pX_gs]) | refine awp_block ?_ | (refine awp_skip ?_; simp only [go_sem, hS4, hT4, hTFy, hTFu, chH_c, chH_g, chH_t, gnF_app, tnF_app, chH_gs, chH_ts, kI0, kI1, kI2, sl0, sl1, sl2, sn0, sn1, sn2, chA_c, chA_g, chA_t, chA_gs, chA_ts, chA_low, chA_upd, chA_scrub, sub_lowb, sub_lowe, pX_low, pX_ts, pX_gs]) | (refine awp_exit ?_; simp only [go_sem, hS4, hT4, hTFy, hTFu, chH_c, chH_g, chH_t, gnF_app, tnF_app, chH_gs, chH_ts, kI0, kI1, kI2, sl0, sl1, sl2, sn0, sn1, sn2, chA_c, chA_g, chA_t, chA_gs, chA_ts, chA_low, chA_upd, chA_scrub, sub_lowb, sub_lowe, pX_low, pX_ts, pX_gs]) | (refine awp_ret ?_; try simp only [go_sem, hS4, hT4, hTFy, hTFu, chH_c, chH_g, chH_t, gnF_app, tnF_app, chH_gs, chH_ts, kI0, kI1, kI2, sl0, sl1, sl2, sn0, sn1, sn2, chA_c, chA_g, chA_t, chA_gs, chA_ts, chA_low, chA_upd, chA_scrub, sub_lowb, sub_lowe, pX_low, pX_ts, pX_gs]) | (refine awp_condP rfl ?_; try simp only [go_sem, hS4, hT4, hTFy, hTFu, chH_c, chH_g, chH_t, gnF_app, tnF_app, chH_gs, chH_ts, kI0, kI1, kI2, sl0, sl1, sl2, sn0, sn1, sn2, chA_c, chA_g, chA_t, chA_gs, chA_ts, chA_low, chA_upd, chA_scrub, sub_lowb, sub_lowe, pX_low, pX_ts, pX_gs]) | (refine BrP.mk (fun h => ?_) (fun h => ?_) <;> try simp (dsimp := false) (disch := omega) only [wrap64]) | (refine Br.mk (fun h => ?_) (fun h => ?_) <;> try simp (dsimp := false) (disch := omega) only [wrap64]) | refine Ob.mk (by first | omega | (intro _ _; rfl) | trivial | (intros; trivial) | assumption | (intro i hi; have h0 : i = 0 := (by omega); subst h0; first | rfl | trivial) | (intro i hi; have h0 : i = 0 ∨ i = 1 := (by omega); rcases h0 with rfl | rfl <;> rfl) | (intro i hi; have h0 : i = 0 ∨ i = 1 ∨ i = 2 := (by omega); rcases h0 with rfl | rfl | rfl <;> rfl)) ?_ | ((first | ((first | refine atF (f := 114) ?_ | refine atQ (f := 114) ?_); (first | (refine cFI (hac := implCompose_ok t ((Cq.S l).getD b []) (by omega) (pm_lt ht1 (hg1 (by omega))) 9) (hK := ?_)) | (refine cQI (hac := implCompose_ok t ((Cq.S l).getD b []) (by omega) (pm_lt ht1 (hg1 (by omega))) 9) (hK := ?_)))) | ((first | refine atF (f := 115) ?_ | refine atQ (f := 115) ?_); (first | (refine cFI (hac := implInverse_ok u (by omega) (by rw [hul (by omega)]; exact hu1 (by omega)) 9) (hK := ?_)) | (refine cQI (hac := implInverse_ok u (by omega) (by rw [hul (by omega)]; exact hu1 (by omega)) 9) (hK := ?_)))) | ((first | refine atF (f := 114) ?_ | refine atQ (f := 114) ?_); (first | (refine cFI (hac := implCompose_ok (comp t ((Cq.S l).getD b [])) (invp u) (by have := (ht1.comp (hg1 (by omega))).1; omega) (pm_lt (ht1.comp (hg1 (by omega))) (hu1 (by omega)).inv) 9) (hK := ?_)) | (refine cQI (hac := implCompose_ok (comp t ((Cq.S l).getD b [])) (invp u) (by have := (ht1.comp (hg1 (by omega))).1; omega) (pm_lt (ht1.comp (hg1 (by omega))) (hu1 (by omega)).inv) 9) (hK := ?_)))) | ((first | refine atF (f := 96) ?_ | refine atQ (f := 96) ?_); refine callCh (R := Hp.emp) (hac4 (by omega)) hok hn rfl rfl (fun h hh => pnC_pX (Nat.le_succ l) hh) (fun C5 hA5 => ?_))); simp (maxSteps := 1000000) (dsimp := false) (implicitDefEqProofs := false) (disch := omega) only [wrap64, go_sem, hS4, hT4, hTFy, hTFu, chH_c, chH_g, chH_t, gnF_app, tnF_app, chH_gs, chH_ts, kI0, kI1, kI2, sl0, sl1, sl2, sn0, sn1, sn2, chA_c, chA_g, chA_t, chA_gs, chA_ts, chA_low, chA_upd, chA_scrub, sub_lowb, sub_lowe, pX_low, pX_ts, pX_gs]) | apply_assumption -exfalso -symm)
        all_goals (first | (show endQ _ _ _ _ _ _ _; (repeat (rename (∀ (A : Fr) (H : Hp), AWP _ _ _ _ A H → _) => hK; clear hK)); (repeat (rename (Fr → Hp → Prop) => K; clear K))) | (show Exists _; (repeat (rename (∀ (A : Fr) (H : Hp), AWP _ _ _ _ A H → _) => hK; clear hK)); (repeat (rename (Fr → Hp → Prop) => K; clear K))) | skip)
        · refine ⟨(C5, b + 1), ⟨by dsimp only; omega, hQ4.step (hqf (by omega)).2.2 hA5, hkeep C5 hA5, fun j hj => ?_⟩, by dsimp only; omega, Sub.toL ?_ (Hp.le_refl _)⟩
          · dsimp only at hj ⊢
            by_cases e : j = b
            · subst e; exact hA5.has
            · have hjl : j < (Cq.S l).length := by omega
              have hgj : (Cq.S l).getD j [] ∈ Cq.S l := by
                rw [List.getD_eq_getElem?_getD, List.getElem?_eq_getElem hjl]; exact List.getElem_mem _
              have hq := hQ4.quo_fix hl (y := y) (g := (Cq.S l).getD j []) (by rw [ht]; rfl) hgj
              exact hQ4.keep hl hA5 hq.1 hq.2.1 (he4 j (by omega))
          · exact (by simp only [go_sem] <;> first | trivial | (simp only [Option.some.injEq, AV.v.injEq, AV.own.injEq, AV.list.injEq, Value.int.injEq, Value.bool.injEq, true_and, and_true]; first | omega | (simp; done)) | (simp; done) | (simp; omega))
        · refine ⟨(C4, a + 1), ⟨by dsimp only; omega, hQ4, fun i hi g hg => ?_⟩, by dsimp only; omega, Sub.toL ?_ (Hp.le_refl _)⟩
          · dsimp only at hi ⊢
            by_cases e : i = a
            · subst e
              rw [hyo, Int.toNat_natCast]
              obtain ⟨j, hj, rfl⟩ := List.mem_iff_getElem.1 hg
              have := he4 j (by omega)
              rwa [List.getD_eq_getElem?_getD, List.getElem?_eq_getElem hj] at this
            · exact hd4 i (by omega) g hg
          · exact (by simp only [go_sem] <;> first | trivial | (simp only [Option.some.injEq, AV.v.injEq, AV.own.injEq, AV.list.injEq, Value.int.injEq, Value.bool.injEq, true_and, and_true]; first | omega | (simp; done)) | (simp; done) | (simp; omega))
      · have e : a = (orb (Cq.T l) n).length := by omega
        have hall : ∀ y g, (Cq.T l y).isSome = true → g ∈ Cq.S l → C3.has (n - (l + 1)) (l + 1) (Cq.quo l y g) = true := fun y g hy hg => by
          have hyn := hP.lt hl hy
          have hm : ((y : Nat) : Int) ∈ orb (Cq.T l) n := orb_mem.2 ⟨y, hyn, hy, rfl⟩
          obtain ⟨i, hi, hie⟩ := List.mem_iff_getElem.1 hm
          have := hd3 i (by omega) g hg
          rwa [List.getD_eq_getElem?_getD, List.getElem?_eq_getElem hi, Option.getD_some, hie, Int.toNat_natCast] at this
        exact end_Ch' rfl (Ph2.add hw hl hp hf (hC1 ▸ hP) hQ3 (hQ3.fin hl hall)) (le_add _ _)
    | cons x q =>
      obtain ⟨y0, hy, rfl, hs⟩ := hP.q1 x (by simp)
      rw [List.length_cons] at hM
      repeat' (first | refine awp_seqK fun K hK => ?_ | (refine awp_regionK 38038802559503246140721691121351 rfl ?_; simp only [List.map_cons, List.map_nil]; simp (maxSteps := 1000000) (dsimp := false) (implicitDefEqProofs := false) (disch := omega) only [wrap64, go_sem, hSq, chH_c, chH_g, chH_t, gnF_app, tnF_app, chH_gs, chH_ts, kI0, kI1, kI2, sl0, sl1, sl2, sn0, sn1, sn2, chA_c, chA_g, chA_t, chA_gs, chA_ts, chA_low, chA_upd, chA_scrub, sub_lowb, sub_lowe]) | (refine awp_regionQK 38038802559503246140721691121351 (by kernel_rfl) (by kernel_rfl) (by kernel_rfl) ?_; simp only [List.map_cons, List.map_nil]; simp (maxSteps := 1000000) (dsimp := false) (implicitDefEqProofs := false) (disch := omega) only [wrap64, go_sem, hSq, chH_c, chH_g, chH_t, gnF_app, tnF_app, chH_gs, chH_ts, kI0, kI1, kI2, sl0, sl1, sl2, sn0, sn1, sn2, chA_c, chA_g, chA_t, chA_gs, chA_ts, chA_low, chA_upd, chA_scrub, sub_lowb, sub_lowe]) | refine awp_block ?_ | (refine awp_skip ?_; simp only [go_sem, hSq, chH_c, chH_g, chH_t, gnF_app, tnF_app, chH_gs, chH_ts, kI0, kI1, kI2, sl0, sl1, sl2, sn0, sn1, sn2, chA_c, chA_g, chA_t, chA_gs, chA_ts, chA_low, chA_upd, chA_scrub, sub_lowb, sub_lowe]) | (refine awp_exit ?_; simp only [go_sem, hSq, chH_c, chH_g, chH_t, gnF_app, tnF_app, chH_gs, chH_ts, kI0, kI1, kI2, sl0, sl1, sl2, sn0, sn1, sn2, chA_c, chA_g, chA_t, chA_gs, chA_ts, chA_low, chA_upd, chA_scrub, sub_lowb, sub_lowe]) | (refine awp_ret ?_; try simp only [go_sem, hSq, chH_c, chH_g, chH_t, gnF_app, tnF_app, chH_gs, chH_ts, kI0, kI1, kI2, sl0, sl1, sl2, sn0, sn1, sn2, chA_c, chA_g, chA_t, chA_gs, chA_ts, chA_low, chA_upd, chA_scrub, sub_lowb, sub_lowe]) | (refine awp_condP rfl ?_; try simp only [go_sem, hSq, chH_c, chH_g, chH_t, gnF_app, tnF_app, chH_gs, chH_ts, kI0, kI1, kI2, sl0, sl1, sl2, sn0, sn1, sn2, chA_c, chA_g, chA_t, chA_gs, chA_ts, chA_low, chA_upd, chA_scrub, sub_lowb, sub_lowe]) | (refine BrP.mk (fun h => ?_) (fun h => ?_) <;> try simp (dsimp := false) (disch := omega) only [wrap64]) | (refine Br.mk (fun h => ?_) (fun h => ?_) <;> try simp (dsimp := false) (disch := omega) only [wrap64]) | refine Ob.mk (by first | omega | (intro _ _; rfl) | trivial | (intros; trivial) | assumption | (intro i hi; have h0 : i = 0 := (by omega); subst h0; first | rfl | trivial) | (intro i hi; have h0 : i = 0 ∨ i = 1 := (by omega); rcases h0 with rfl | rfl <;> rfl) | (intro i hi; have h0 : i = 0 ∨ i = 1 ∨ i = 2 := (by omega); rcases h0 with rfl | rfl | rfl <;> rfl)) ?_ | apply_assumption -exfalso -symm)
      all_goals (first | (show endQ _ _ _ _ _ _ _; (repeat (rename (∀ (A : Fr) (H : Hp), AWP _ _ _ _ A H → _) => hK; clear hK)); (repeat (rename (Fr → Hp → Prop) => K; clear K))) | (show Exists _; (repeat (rename (∀ (A : Fr) (H : Hp), AWP _ _ _ _ A H → _) => hK; clear hK)); (repeat (rename (Fr → Hp → Prop) => K; clear K))) | skip)
      rotate_left
      · exfalso; omega
      refine awp_loop (ι := Ch × List Int × List Int × Nat) (fun z => [(57, .v (.int .i64 (z.2.2.2))), (56, .v (.int .i64 ((C1.S l).length))), (55, .own (sub 1000001 l) 0 1 (C1.S l).length), (7, .own 30 z.2.1.length 1 ((y0 : Int) :: z.2.2.1).length), (6, .own (sub 1000002 l) 0 1 n), (1, .v (.int .i64 (l))), (0, .ref 1000000 0)]) (fun z => (chH (kI n) n z.1).add (Hp.emp.upd 30 (.cells (z.2.1 ++ (y0 : Int) :: z.2.2.1).length (cM iv 0 (z.2.1 ++ (y0 : Int) :: z.2.2.1))))) (fun z => z.2.2.2 ≤ (C1.S l).length ∧ Ph1 n l C1 z.1 ((y0 : Int) :: z.2.2.1) ∧ (∀ j, j < z.2.2.2 → (z.1.T l (img ((C1.S l).getD j []) y0)).isSome = true) ∧ (n - z.1.cnt n l) + z.2.2.1.length = (n - Cq.cnt n l) + q.length) (fun z => (C1.S l).length - z.2.2.2) (Cq, pre, q, 0) ?_ (Sub.toL (by simp only [go_sem] <;> first | trivial | (simp only [Option.some.injEq, AV.v.injEq, AV.own.injEq, AV.list.injEq, Value.int.injEq, Value.bool.injEq, true_and, and_true]; first | omega | (simp; done)) | (simp; done) | (simp; omega)) (by (repeat' (first | exact Hp.le_emp _ | exact Hp.le_refl _ | refine Hp.le_upd ?_ ?_)); all_goals (first | rfl | (simp only [go_sem]; first | rfl | (refine cellsE ?_ ?_ <;> (simp)) | (simp))))) ?_
      · exact ⟨Nat.zero_le _, hP, fun j hj => absurd hj (Nat.not_lt_zero j), rfl⟩
      rintro ⟨C2, pre2, q2, m⟩ ⟨hm, hP2, hd2, hM2⟩
      dsimp only at hm hP2 hd2 hM2 ⊢
      have hS2 : C2.S l = C1.S l := by rw [hP2.eS]
      obtain ⟨_, _, _, hs2⟩ := hP2.q1 (y0 : Int) (by simp)
      obtain ⟨t0, ht0⟩ := Option.isSome_iff_exists.1 (show (C2.T l y0).isSome = true by rename_i y1 e1 e2; rwa [show y0 = y1 by omega])
      have hTF0 : tF (C2.T l) y0 = .list false 1 t0.length (cM iv 0 t0) := tF_some ht0
      obtain ⟨ht1, ht2, ht3⟩ := hP2.wf.t1 l y0 t0 hl ht0
      have hg1 : m < (C1.S l).length → Pm n ((C1.S l).getD m []) := fun h => hgp _ (hgm m h)
      have hgl : m < (C1.S l).length → ((C1.S l).getD m []).length = n := fun h => (hg1 h).1
      have hgb : m < (C1.S l).length → 0 ≤ ((C1.S l).getD m []).getD y0 0 ∧ ((C1.S l).getD m []).getD y0 0 < n := fun h => (hg1 h).2.1 y0 hy
      have ht0l := ht1.1
      have hlen : (pre2 ++ (y0 : Int) :: q2).length = pre2.length + (q2.length + 1) := by simp
      cases hT : C2.T l (img ((C1.S l).getD m []) y0) with
      | none =>
        have hTF : tF (C2.T l) (((C1.S l).getD m []).getD y0 0).toNat = .v (.slice none 0 0) := tF_none hT
        repeat' (first | (refine setT_awp hn hl ?_) | refine awp_seqK fun K hK => ?_ | (refine awp_regionK 38038802559503246140721691121351 rfl ?_; simp only [List.map_cons, List.map_nil]; simp (maxSteps := 1000000) (dsimp := false) (implicitDefEqProofs := false) (disch := omega) only [wrap64, go_sem, hSq, chH_c, chH_g, chH_t, gnF_app, tnF_app, chH_gs, chH_ts, kI0, kI1, kI2, sl0, sl1, sl2, sn0, sn1, sn2, chA_c, chA_g, chA_t, chA_gs, chA_ts, chA_low, chA_upd, chA_scrub, sub_lowb, sub_lowe, hS2, hTF0, hTF, getD_mid, shF_app, tz, t1', Nat.add_zero]) | (refine awp_regionQK 38038802559503246140721691121351 (by kernel_rfl) (by kernel_rfl) (by kernel_rfl) ?_; simp only [List.map_cons, List.map_nil]; simp (maxSteps := 1000000) (dsimp := false) (implicitDefEqProofs := false) (disch := omega) only [wrap64, go_sem, hSq, chH_c, chH_g, chH_t, gnF_app, tnF_app, chH_gs, chH_ts, kI0, kI1, kI2, sl0, sl1, sl2, sn0, sn1, sn2, chA_c, chA_g, chA_t, chA_gs, chA_ts, chA_low, chA_upd, chA_scrub, sub_lowb, sub_lowe, hS2, hTF0, hTF, getD_mid, shF_app, tz, t1', Nat.add_zero]) | refine awp_block ?_ | (refine awp_skip ?_; simp only [go_sem, hSq, chH_c, chH_g, chH_t, gnF_app, tnF_app, chH_gs, chH_ts, kI0, kI1, kI2, sl0, sl1, sl2, sn0, sn1, sn2, chA_c, chA_g, chA_t, chA_gs, chA_ts, chA_low, chA_upd, chA_scrub, sub_lowb, sub_lowe, hS2, hTF0, hTF, getD_mid, shF_app, tz, t1', Nat.add_zero]) | (refine awp_exit ?_; simp only [go_sem, hSq, chH_c, chH_g, chH_t, gnF_app, tnF_app, chH_gs, chH_ts, kI0, kI1, kI2, sl0, sl1, sl2, sn0, sn1, sn2, chA_c, chA_g, chA_t, chA_gs, chA_ts, chA_low, chA_upd, chA_scrub, sub_lowb, sub_lowe, hS2, hTF0, hTF, getD_mid, shF_app, tz, t1', Nat.add_zero]) | (refine awp_ret ?_; try simp only [go_sem, hSq, chH_c, chH_g, chH_t, gnF_app, tnF_app, chH_gs, chH_ts, kI0, kI1, kI2, sl0, sl1, sl2, sn0, sn1, sn2, chA_c, chA_g, chA_t, chA_gs, chA_ts, chA_low, chA_upd, chA_scrub, sub_lowb, sub_lowe, hS2, hTF0, hTF, getD_mid, shF_app, tz, t1', Nat.add_zero]) | (refine awp_condP rfl ?_; try simp only [go_sem, hSq, chH_c, chH_g, chH_t, gnF_app, tnF_app, chH_gs, chH_ts, kI0, kI1, kI2, sl0, sl1, sl2, sn0, sn1, sn2, chA_c, chA_g, chA_t, chA_gs, chA_ts, chA_low, chA_upd, chA_scrub, sub_lowb, sub_lowe, hS2, hTF0, hTF, getD_mid, shF_app, tz, t1', Nat.add_zero]) | (refine BrP.mk (fun h => ?_) (fun h => ?_) <;> try simp (dsimp := false) (disch := omega) only [wrap64]) | (refine Br.mk (fun h => ?_) (fun h => ?_) <;> try simp (dsimp := false) (disch := omega) only [wrap64]) | refine Ob.mk (by first | omega | (intro _ _; rfl) | trivial | (intros; trivial) | assumption | (intro i hi; have h0 : i = 0 := (by omega); subst h0; first | rfl | trivial) | (intro i hi; have h0 : i = 0 ∨ i = 1 := (by omega); rcases h0 with rfl | rfl <;> rfl) | (intro i hi; have h0 : i = 0 ∨ i = 1 ∨ i = 2 := (by omega); rcases h0 with rfl | rfl | rfl <;> rfl)) ?_ | ((first | ((first | refine atF (f := 114) ?_ | refine atQ (f := 114) ?_); (first | (refine cFI (hac := implCompose_ok t0 ((C1.S l).getD m []) (by omega) (pm_lt ht1 (hg1 (by omega))) 9) (hK := ?_)) | (refine cQI (hac := implCompose_ok t0 ((C1.S l).getD m []) (by omega) (pm_lt ht1 (hg1 (by omega))) 9) (hK := ?_))))); simp (maxSteps := 1000000) (dsimp := false) (implicitDefEqProofs := false) (disch := omega) only [wrap64, go_sem, hSq, chH_c, chH_g, chH_t, gnF_app, tnF_app, chH_gs, chH_ts, kI0, kI1, kI2, sl0, sl1, sl2, sn0, sn1, sn2, chA_c, chA_g, chA_t, chA_gs, chA_ts, chA_low, chA_upd, chA_scrub, sub_lowb, sub_lowe, hS2, hTF0, hTF, getD_mid, shF_app, tz, t1', Nat.add_zero]) | apply_assumption -exfalso -symm)
        all_goals (first | (show endQ _ _ _ _ _ _ _; (repeat (rename (∀ (A : Fr) (H : Hp), AWP _ _ _ _ A H → _) => hK; clear hK)); (repeat (rename (Fr → Hp → Prop) => K; clear K))) | (show Exists _; (repeat (rename (∀ (A : Fr) (H : Hp), AWP _ _ _ _ A H → _) => hK; clear hK)); (repeat (rename (Fr → Hp → Prop) => K; clear K))) | skip)
        · have hg := hgm m (by omega)
          have hto : ((img ((C1.S l).getD m []) y0 : Nat) : Int) = ((C1.S l).getD m []).getD y0 0 := ((hg1 (by omega)).get_eq hy).symm
          have hcn := Ch.cnt_setT (t := comp t0 ((C1.S l).getD m [])) (C := C2) (l := l) ((hg1 (by omega)).img_lt hy) hT
          have hcl := Ch.cnt_le_n (C := C2.setT l (img ((C1.S l).getD m []) y0) (comp t0 ((C1.S l).getD m []))) (n := n) (l := l)
          refine ⟨(C2.setT l (img ((C1.S l).getD m []) y0) (comp t0 ((C1.S l).getD m [])), [], q2 ++ [((img ((C1.S l).getD m []) y0 : Nat) : Int)], m + 1), ⟨by dsimp only; omega, hP2.push hl ht0 hg hT, fun j hj => ?_, ?_⟩, by dsimp only; omega, Sub.toL ?_ (add_le (Hp.le_upd ?_ (Hp.le_emp _)))⟩
          · dsimp only at hj ⊢
            rw [Ch.setT_self]
            split
            · rfl
            · rename_i hne
              by_cases e : j = m
              · subst e; exact absurd rfl hne
              · exact hd2 j (by omega)
          · dsimp only
            rw [hcn] at hcl ⊢
            rw [List.length_append, List.length_singleton]; omega
          · dsimp only
            exact (by simp only [go_sem] <;> first | trivial | (simp only [Option.some.injEq, AV.v.injEq, AV.own.injEq, AV.list.injEq, Value.int.injEq, Value.bool.injEq, true_and, and_true]; first | omega | (simp [List.length_append, List.length_nil, List.length_singleton]; done)) | (simp [List.length_append, List.length_nil, List.length_singleton]; done) | (simp [List.length_append, List.length_nil, List.length_singleton]; omega))
          · dsimp only
            rw [hto]
            simp only [go_sem]
            have e := apF_cM iv (0 : Int) ((y0 : Int) :: q2) [((C1.S l).getD m []).getD y0 0]
            simp only [List.length_cons] at e
            rw [e]
            simp
        · have hall : ∀ g, g ∈ C1.S l → (C2.T l (img g y0)).isSome = true := fun g hg => by
            obtain ⟨j, hj, rfl⟩ := List.mem_iff_getElem.1 hg
            have := hd2 j (by omega)
            rwa [List.getD_eq_getElem?_getD, List.getElem?_eq_getElem hj] at this
          refine ⟨(C2, pre2 ++ [(y0 : Int)], q2), ⟨hP2.pop hall, by dsimp only; omega⟩, by dsimp only; omega, Sub.toL ?_ (add_le (Hp.le_upd ?_ (Hp.le_emp _)))⟩
          · dsimp only
            rw [List.length_append, List.length_singleton]
            exact (by simp only [go_sem] <;> first | trivial | (simp only [Option.some.injEq, AV.v.injEq, AV.own.injEq, AV.list.injEq, Value.int.injEq, Value.bool.injEq, true_and, and_true]; first | omega | (simp; done)) | (simp; done) | (simp; omega))
          · dsimp only
            rw [List.append_assoc]; rfl
      | some u =>
        have hTF : tF (C2.T l) (((C1.S l).getD m []).getD y0 0).toNat = .list false 1 u.length (cM iv 0 u) := tF_some hT
        have hul : m < (C1.S l).length → u.length = n := fun h => (hP2.wf.t1 l _ u hl hT).1.1
        have hnl := fun h : m < (C1.S l).length => nil_no (hul h) (by omega)
        repeat' (first | refine awp_seqK fun K hK => ?_ | (refine awp_regionK 38038802559503246140721691121351 rfl ?_; simp only [List.map_cons, List.map_nil]; simp (maxSteps := 1000000) (dsimp := false) (implicitDefEqProofs := false) (disch := omega) only [wrap64, go_sem, hnl, hSq, chH_c, chH_g, chH_t, gnF_app, tnF_app, chH_gs, chH_ts, kI0, kI1, kI2, sl0, sl1, sl2, sn0, sn1, sn2, chA_c, chA_g, chA_t, chA_gs, chA_ts, chA_low, chA_upd, chA_scrub, sub_lowb, sub_lowe, hS2, hTF0, hTF, getD_mid, shF_app, tz, t1', Nat.add_zero]) | (refine awp_regionQK 38038802559503246140721691121351 (by kernel_rfl) (by kernel_rfl) (by kernel_rfl) ?_; simp only [List.map_cons, List.map_nil]; simp (maxSteps := 1000000) (dsimp := false) (implicitDefEqProofs := false) (disch := omega) only [wrap64, go_sem, hnl, hSq, chH_c, chH_g, chH_t, gnF_app, tnF_app, chH_gs, chH_ts, kI0, kI1, kI2, sl0, sl1, sl2, sn0, sn1, sn2, chA_c, chA_g, chA_t, chA_gs, chA_ts, chA_low, chA_upd, chA_scrub, sub_lowb, sub_lowe, hS2, hTF0, hTF, getD_mid, shF_app, tz, t1', Nat.add_zero]) | refine awp_block ?_ | (refine awp_skip ?_; simp only [go_sem, hnl, hSq, chH_c, chH_g, chH_t, gnF_app, tnF_app, chH_gs, chH_ts, kI0, kI1, kI2, sl0, sl1, sl2, sn0, sn1, sn2, chA_c, chA_g, chA_t, chA_gs, chA_ts, chA_low, chA_upd, chA_scrub, sub_lowb, sub_lowe, hS2, hTF0, hTF, getD_mid, shF_app, tz, t1', Nat.add_zero]) | (refine awp_exit ?_; simp only [go_sem, hnl, hSq, chH_c, chH_g, chH_t, gnF_app, tnF_app, chH_gs, chH_ts, kI0, kI1, kI2, sl0, sl1, sl2, sn0, sn1, sn2, chA_c, chA_g, chA_t, chA_gs, chA_ts, chA_low, chA_upd, chA_scrub, sub_lowb, sub_lowe, hS2, hTF0, hTF, getD_mid, shF_app, tz, t1', Nat.add_zero]) | (refine awp_ret ?_; try simp only [go_sem, hnl, hSq, chH_c, chH_g, chH_t, gnF_app, tnF_app, chH_gs, chH_ts, kI0, kI1, kI2, sl0, sl1, sl2, sn0, sn1, sn2, chA_c, chA_g, chA_t, chA_gs, chA_ts, chA_low, chA_upd, chA_scrub, sub_lowb, sub_lowe, hS2, hTF0, hTF, getD_mid, shF_app, tz, t1', Nat.add_zero]) | (refine awp_condP rfl ?_; try simp only [go_sem, hnl, hSq, chH_c, chH_g, chH_t, gnF_app, tnF_app, chH_gs, chH_ts, kI0, kI1, kI2, sl0, sl1, sl2, sn0, sn1, sn2, chA_c, chA_g, chA_t, chA_gs, chA_ts, chA_low, chA_upd, chA_scrub, sub_lowb, sub_lowe, hS2, hTF0, hTF, getD_mid, shF_app, tz, t1', Nat.add_zero]) | (refine BrP.mk (fun h => ?_) (fun h => ?_) <;> try simp (dsimp := false) (disch := omega) only [wrap64]) | (refine Br.mk (fun h => ?_) (fun h => ?_) <;> try simp (dsimp := false) (disch := omega) only [wrap64]) | refine Ob.mk (by first | omega | (intro _ _; rfl) | trivial | (intros; trivial) | assumption | (intro i hi; have h0 : i = 0 := (by omega); subst h0; first | rfl | trivial) | (intro i hi; have h0 : i = 0 ∨ i = 1 := (by omega); rcases h0 with rfl | rfl <;> rfl) | (intro i hi; have h0 : i = 0 ∨ i = 1 ∨ i = 2 := (by omega); rcases h0 with rfl | rfl | rfl <;> rfl)) ?_ | ((first | ((first | refine atF (f := 114) ?_ | refine atQ (f := 114) ?_); (first | (refine cFI (hac := implCompose_ok t0 ((C1.S l).getD m []) (by omega) (pm_lt ht1 (hg1 (by omega))) 9) (hK := ?_)) | (refine cQI (hac := implCompose_ok t0 ((C1.S l).getD m []) (by omega) (pm_lt ht1 (hg1 (by omega))) 9) (hK := ?_))))); simp (maxSteps := 1000000) (dsimp := false) (implicitDefEqProofs := false) (disch := omega) only [wrap64, go_sem, hnl, hSq, chH_c, chH_g, chH_t, gnF_app, tnF_app, chH_gs, chH_ts, kI0, kI1, kI2, sl0, sl1, sl2, sn0, sn1, sn2, chA_c, chA_g, chA_t, chA_gs, chA_ts, chA_low, chA_upd, chA_scrub, sub_lowb, sub_lowe, hS2, hTF0, hTF, getD_mid, shF_app, tz, t1', Nat.add_zero]) | apply_assumption -exfalso -symm)
        all_goals (first | (show endQ _ _ _ _ _ _ _; (repeat (rename (∀ (A : Fr) (H : Hp), AWP _ _ _ _ A H → _) => hK; clear hK)); (repeat (rename (Fr → Hp → Prop) => K; clear K))) | (show Exists _; (repeat (rename (∀ (A : Fr) (H : Hp), AWP _ _ _ _ A H → _) => hK; clear hK)); (repeat (rename (Fr → Hp → Prop) => K; clear K))) | skip)
        · refine ⟨(C2, pre2, q2, m + 1), ⟨by dsimp only; omega, hP2, fun j hj => ?_, hM2⟩, by dsimp only; omega, Sub.toL ?_ (Hp.le_refl _)⟩
          · dsimp only at hj ⊢
            by_cases e : j = m
            · subst e; rw [hT]; rfl
            · exact hd2 j (by omega)
          · exact (by simp only [go_sem] <;> first | trivial | (simp only [Option.some.injEq, AV.v.injEq, AV.own.injEq, AV.list.injEq, Value.int.injEq, Value.bool.injEq, true_and, and_true]; first | omega | (simp; done)) | (simp; done) | (simp; omega))
        · have hall : ∀ g, g ∈ C1.S l → (C2.T l (img g y0)).isSome = true := fun g hg => by
            obtain ⟨j, hj, rfl⟩ := List.mem_iff_getElem.1 hg
            have := hd2 j (by omega)
            rwa [List.getD_eq_getElem?_getD, List.getElem?_eq_getElem hj] at this
          refine ⟨(C2, pre2 ++ [(y0 : Int)], q2), ⟨hP2.pop hall, by dsimp only; omega⟩, by dsimp only; omega, Sub.toL ?_ (add_le (Hp.le_upd ?_ (Hp.le_emp _)))⟩
          · dsimp only
            rw [List.length_append, List.length_singleton]
            exact (by simp only [go_sem] <;> first | trivial | (simp only [Option.some.injEq, AV.v.injEq, AV.own.injEq, AV.list.injEq, Value.int.injEq, Value.bool.injEq, true_and, and_true]; first | omega | (simp; done)) | (simp; done) | (simp; omega))
          · dsimp only
            rw [List.append_assoc]; rfl

theorem implAdd_ok (n : Nat) (hn : n ≤ 20) : ∀ (m l : Nat) (C : Ch) (p : List Int), l + m = n → C.WF n → C.Full n l → C.Ind n → Pm n p → fixB l p →
    AC Tryz.prog 96 [.ref 1000000 0, .v (.int .i64 (l)), ints p] (chH (kI n) n C) (pnC l) (postC (kI n) n (Ch.Add n l C p))
  | 0, l, C, p, hlm, hw, hF, hI, hp, hf => by
    have hh : C.has (n - l) l p = true := by rw [show n - l = 0 by omega]; rfl
    exact implAdd_end n hn l C p (by omega) hw hF hp hh
  | m + 1, l, C, p, hlm, hw, hF, hI, hp, hf =>
    implAdd_step n hn l C p (by omega) hw hF hI hp hf (fun C p h1 h2 h3 h4 h5 => by
      have := implAdd_ok n hn m (l + 1) C p (by omega) h1 h2 h3 h4 h5
      rwa [Int.natCast_add] at this)
end Go.Proofs.YtpffmolibjimgaaGreatDoor
end
