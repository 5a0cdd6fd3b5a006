/- Stabilizer chains of our own: how they lie in memory. -/
import Derived.Test.YtfgblelbhlpfjaaT30
import Derived.Test.YtfgblelbhlpfjaaG4
namespace Go.Proofs.Ytfgblelbhlpfjaa
open Go.Av
set_option linter.unusedVariables false
set_option linter.unusedSimpArgs false
open Go.Pm (Pm comp invp idn img Ch)

def gnF (n : Nat) (C : Ch) (i : Nat) : AV := if i < n then .own (sub 1000001 i) 0 1 (C.S i).length else .dead
def tnF (n : Nat) (i : Nat) : AV := if i < n then .own (sub 1000002 i) 0 1 n else .dead
theorem gnF_app {n i : Nat} (C : Ch) (h : i < n) : gnF n C i = .own (sub 1000001 i) 0 1 (C.S i).length := if_pos h
theorem tnF_app {n i : Nat} (h : i < n) : tnF n i = .own (sub 1000002 i) 0 1 n := if_pos h
def kI (n : Nat) : Nat → AV := vecF [.v (.int .i64 n), .own 1000001 0 1 n, .own 1000002 0 1 n]
def kS (n : Nat) : Nat → AV := vecF [.v (.int .i64 n), .own 1000002 0 1 n, .own 1000001 0 1 n]
theorem kI0 (n : Nat) : kI n 0 = .v (.int .i64 n) := rfl
theorem kI1 (n : Nat) : kI n 1 = .own 1000001 0 1 n := rfl
theorem kI2 (n : Nat) : kI n 2 = .own 1000002 0 1 n := rfl
theorem kS0 (n : Nat) : kS n 0 = .v (.int .i64 n) := rfl
theorem kS1 (n : Nat) : kS n 1 = .own 1000002 0 1 n := rfl
theorem kS2 (n : Nat) : kS n 2 = .own 1000001 0 1 n := rfl
/-- A chain: its struct (F), the rows of generators, the rows of representatives. -/
def chH (F : Nat → AV) (n : Nat) (C : Ch) : Hp := fun h =>
  if h = 1000000 then some (.cells 3 F)
  else if h = 1000001 then some (.cells n (gnF n C))
  else if h = 1000002 then some (.cells n (tnF n))
  else if h / FB = 1000002 ∧ h % FB < n then some (.cells (C.S (h % FB)).length (cM ints [] (C.S (h % FB))))
  else if h / FB = 1000003 ∧ h % FB < n then some (.cells n (tF (C.T (h % FB))))
  else none
section
variable {F : Nat → AV} {n : Nat} {C C' : Ch} {R : Hp}
theorem chH_c : chH F n C 1000000 = some (.cells 3 F) := by simp [chH]
theorem chH_g : chH F n C 1000001 = some (.cells n (gnF n C)) := by simp [chH]
theorem chH_t : chH F n C 1000002 = some (.cells n (tnF n)) := by simp [chH]
theorem sub_lits (d i : Nat) : sub d i ≠ 1000000 ∧ sub d i ≠ 1000001 ∧ sub d i ≠ 1000002 := by
  have := sub_ge d i; rw [FB_eq] at this; omega
theorem chH_gs {i : Nat} (hi : i < n) (hn : n ≤ 20) : chH F n C (sub 1000001 i) = some (.cells (C.S i).length (cM ints [] (C.S i))) := by
  obtain ⟨h1, h2, h3⟩ := sub_lits 1000001 i
  have hb : i < FB := by rw [FB_eq]; omega
  simp [chH, h1, h2, h3, sub_div hb, sub_mod hb, hi]
theorem chH_ts {i : Nat} (hi : i < n) (hn : n ≤ 20) : chH F n C (sub 1000002 i) = some (.cells n (tF (C.T i))) := by
  obtain ⟨h1, h2, h3⟩ := sub_lits 1000002 i
  have hb : i < FB := by rw [FB_eq]; omega
  simp [chH, h1, h2, h3, sub_div hb, sub_mod hb, hi]
theorem shF_app {α : Type} (g : α → AV) (d : α) (pre r : List α) : shF pre.length (cM g d (pre ++ r)) = cM g d r := by
  funext j
  simp only [shF, cM_app]
  rw [getD_append, if_neg (by omega)]
  congr 2
  omega
theorem getD_mid {α : Type} (pre r : List α) (x d : α) : (pre ++ x :: r).getD pre.length d = x := by
  rw [getD_append, if_neg (by omega)]; simp
structure Hold (p : Prop) : Prop where
  h : p
theorem hs_c {p : Nat → Bool} : Hp.scrub p (chH F n C) 1000000 = some (.cells 3 (scF p F)) := by simp [Hp.scrub, chH_c, Blk.scrub_cells]
theorem hs_g {p : Nat → Bool} : Hp.scrub p (chH F n C) 1000001 = some (.cells n (scF p (gnF n C))) := by simp [Hp.scrub, chH_g, Blk.scrub_cells]
theorem chH_low {h : Nat} (hh : h < 1000000) : chH F n C h = none := by
  have : h / FB = 0 := top_div (by rw [FB_eq]; omega)
  unfold chH
  rw [if_neg (by omega), if_neg (by omega), if_neg (by omega), if_neg (by omega), if_neg (by omega)]
/-- What names a chain has. -/
theorem chH_names {h : Nat} {B : Blk} (hB : chH F n C h = some B) : (h = 1000000 ∧ B = .cells 3 F) ∨ (h = 1000001 ∧ B = .cells n (gnF n C)) ∨ (h = 1000002 ∧ B = .cells n (tnF n))
    ∨ (∃ i, i < n ∧ h = sub 1000001 i ∧ B = .cells (C.S i).length (cM ints [] (C.S i))) ∨ (∃ i, i < n ∧ h = sub 1000002 i ∧ B = .cells n (tF (C.T i))) := by
  unfold chH at hB
  split at hB
  · rename_i e; simp only [Option.some.injEq] at hB; exact .inl ⟨e, hB.symm⟩
  split at hB
  · rename_i e; simp only [Option.some.injEq] at hB; exact .inr (.inl ⟨e, hB.symm⟩)
  split at hB
  · rename_i e; simp only [Option.some.injEq] at hB; exact .inr (.inr (.inl ⟨e, hB.symm⟩))
  split at hB
  · rename_i e; simp only [Option.some.injEq] at hB; exact .inr (.inr (.inr (.inl ⟨h % FB, e.2, sub_of e.1, hB.symm⟩)))
  split at hB
  · rename_i e; simp only [Option.some.injEq] at hB; exact .inr (.inr (.inr (.inr ⟨h % FB, e.2, sub_of e.1, hB.symm⟩)))
  · simp at hB
theorem chA_c : ((chH F n C).add R) 1000000 = some (.cells 3 F) := Hp.add_some chH_c
theorem chA_g : ((chH F n C).add R) 1000001 = some (.cells n (gnF n C)) := Hp.add_some chH_g
theorem chA_t : ((chH F n C).add R) 1000002 = some (.cells n (tnF n)) := Hp.add_some chH_t
theorem chA_gs {i : Nat} (hi : i < n) (hn : n ≤ 20) : ((chH F n C).add R) (sub 1000001 i) = some (.cells (C.S i).length (cM ints [] (C.S i))) := Hp.add_some (chH_gs hi hn)
theorem chA_ts {i : Nat} (hi : i < n) (hn : n ≤ 20) : ((chH F n C).add R) (sub 1000002 i) = some (.cells n (tF (C.T i))) := Hp.add_some (chH_ts hi hn)
theorem chA_low {h : Nat} (hh : h < 1000000) : ((chH F n C).add R) h = R h := Hp.add_none (chH_low hh)

theorem sl0 (d i : Nat) : (1000000 == sub d i) = false := beq_eq_false_iff_ne.2 fun e => (sub_lits d i).1 e.symm
theorem sl1 (d i : Nat) : (1000001 == sub d i) = false := beq_eq_false_iff_ne.2 fun e => (sub_lits d i).2.1 e.symm
theorem sl2 (d i : Nat) : (1000002 == sub d i) = false := beq_eq_false_iff_ne.2 fun e => (sub_lits d i).2.2 e.symm
theorem sub_lowb {d i h : Nat} (hh : h < 1000000) : (sub d i == h) = false := beq_eq_false_iff_ne.2 fun e => by have := sub_ge d i; rw [FB_eq] at this; omega
theorem sub_lowe {d i h : Nat} (hh : h < 1000000) : (sub d i = h) = False := eq_false fun e => by have := sub_ge d i; rw [FB_eq] at this; omega
theorem sn0 (d i : Nat) : (1000000 = sub d i) = False := eq_false fun e => (sub_lits d i).1 e.symm
theorem sn1 (d i : Nat) : (1000001 = sub d i) = False := eq_false fun e => (sub_lits d i).2.1 e.symm
theorem sn2 (d i : Nat) : (1000002 = sub d i) = False := eq_false fun e => (sub_lits d i).2.2 e.symm
theorem fits_row {H : Hp} {D : Nat → Prop} {i : Nat} (h : H (sub 1000002 i) = some (.cells n (tF (C.T i)))) (hD : D (sub 1000002 i)) : Fits H D (.own (sub 1000002 i) 0 1 n) (.list false 1 n (tF (C.T i))) :=
  .own h hD (by omega) (fun j _ => by unfold tF; cases C.T i j <;> trivial) (fun j _ => by rw [Nat.zero_add]; exact .refl _)
theorem fits_gen {H : Hp} {D : Nat → Prop} {i : Nat} (h : H (sub 1000001 i) = some (.cells (C.S i).length (cM ints [] (C.S i)))) (hD : D (sub 1000001 i)) : Fits H D (.own (sub 1000001 i) 0 1 (C.S i).length) (.list false 1 (C.S i).length (cM ints [] (C.S i))) :=
  .own h hD (by omega) (fun j _ => trivial) (fun j _ => by rw [Nat.zero_add]; exact .refl _)
/-- A chain may be read. -/
theorem fits_rows {H : Hp} {D : Nat → Prop} (h : Hp.le (chH F n C) H) (hn : n ≤ 20) (hD : ∀ h, D h) : Fits H D (.own 1000002 0 1 n) (.list false 1 n (rowF n C)) :=
  .own (h _ _ chH_t) (hD _) (by omega) (fun j _ => trivial) (fun j hj => by rw [Nat.zero_add, tnF_app (by omega)]; exact fits_row (h _ _ (chH_ts (by omega) hn)) (hD _))
theorem fits_gens {H : Hp} {D : Nat → Prop} (h : Hp.le (chH F n C) H) (hn : n ≤ 20) (hD : ∀ h, D h) : Fits H D (.own 1000001 0 1 n) (.list false 1 n (genF C)) :=
  .own (h _ _ chH_g) (hD _) (by omega) (fun j _ => trivial) (fun j hj => by rw [Nat.zero_add, gnF_app _ (by omega)]; exact fits_gen (h _ _ (chH_gs (by omega) hn)) (hD _))
theorem fits_chI {H : Hp} {D : Nat → Prop} (h : Hp.le (chH (kI n) n C) H) (hn : n ≤ 20) (hD : ∀ h, D h) : Fits H D (.ref 1000000 0) (chI n C) := by
  refine .ref (h _ _ chH_c) (hD _) (by omega) (fun i hi => ?_) (fun i hi => ?_)
  · have h0 : i = 0 ∨ i = 1 ∨ i = 2 := by omega
    rcases h0 with rfl | rfl | rfl <;> trivial
  · have h0 : i = 0 ∨ i = 1 ∨ i = 2 := by omega
    rcases h0 with rfl | rfl | rfl
    · exact .refl _
    · exact fits_gens h hn hD
    · exact fits_rows h hn hD
theorem fits_chS {H : Hp} {D : Nat → Prop} (h : Hp.le (chH (kS n) n C) H) (hn : n ≤ 20) (hD : ∀ h, D h) : Fits H D (.ref 1000000 0) (chS n C) := by
  refine .ref (h _ _ chH_c) (hD _) (by omega) (fun i hi => ?_) (fun i hi => ?_)
  · have h0 : i = 0 ∨ i = 1 ∨ i = 2 := by omega
    rcases h0 with rfl | rfl | rfl <;> trivial
  · have h0 : i = 0 ∨ i = 1 ∨ i = 2 := by omega
    rcases h0 with rfl | rfl | rfl
    · exact .refl _
    · exact fits_rows h hn hD
    · exact fits_gens h hn hD
theorem add_le {H R R' : Hp} (h : Hp.le R' R) : Hp.le (H.add R') (H.add R) := by
  intro x B hB
  unfold Hp.add at hB ⊢
  cases e : H x with
  | some B' => rw [e] at hB; exact hB
  | none => rw [e] at hB; exact h x B hB
theorem le_of_eq_add (H : Hp) : Hp.le (H.add Hp.emp) H := by
  intro x B hB
  unfold Hp.add at hB
  cases e : H x with
  | some B' => rw [e] at hB; exact hB
  | none => rw [e] at hB; simp [Hp.emp] at hB
theorem le_add (H R : Hp) : Hp.le H (H.add R) := fun h B hB => Hp.add_some hB

/-- The names that a call at level l leaves where they are. -/
def pnC (l h : Nat) : Bool := h == 1000000 || h == 1000001 || h == 1000002 || h / FB == 1000003 || (h / FB == 1000002 && decide (h % FB < l))
/-- .. and those that it may move. -/
def pX (l h : Nat) : Bool := h / FB == 1000002 && decide (l ≤ h % FB)
theorem pnC_low {l h : Nat} (hh : h < 1000000) : pnC l h = false := by
  have : h / FB = 0 := top_div (by rw [FB_eq]; omega)
  simp [pnC, this]; omega
theorem pX_low {l h : Nat} (hh : h < 2097152) : pX l h = false := by
  have : h / FB = 0 := top_div (by rw [FB_eq]; omega)
  simp [pX, this]
theorem pX_ts {l i : Nat} (hi : i < 20) : pX l (sub 1000002 i) = false := by
  have hb : i < FB := by rw [FB_eq]; omega
  simp [pX, sub_div hb]
theorem pX_gs {l i : Nat} (hi : i < 20) (h : i < l) : pX l (sub 1000001 i) = false := by
  have hb : i < FB := by rw [FB_eq]; omega
  simp [pX, sub_div hb, sub_mod hb]; omega
theorem pnC_gs {l i : Nat} (hi : i < 20) (h : l ≤ i) : pnC l (sub 1000001 i) = false := by
  have hb : i < FB := by rw [FB_eq]; omega
  obtain ⟨h1, h2, h3⟩ := sub_lits 1000001 i
  simp [pnC, sub_div hb, sub_mod hb, h1, h2, h3]; omega
theorem pnC_pX {l m h : Nat} (hm : l ≤ m) (hp : pnC l h = true) : pX m h = false := by
  unfold pnC at hp
  unfold pX
  simp only [Bool.or_eq_true, Bool.and_eq_true, beq_iff_eq, decide_eq_true_eq] at hp
  rcases hp with (((rfl | rfl) | rfl) | h1) | ⟨h1, h2⟩
  · exact pX_low (by decide)
  · exact pX_low (by decide)
  · exact pX_low (by decide)
  · simp [h1]
  · simp [h1]; omega

/-- What a call at the level l makes of a chain. -/
def postC (F : Nat → AV) (n : Nat) (Q : Ch → Prop) : AV → Hp → Prop := fun r H => r = .tup 0 (vecF []) ∧ ∃ C', Q C' ∧ H = chH F n C'
theorem chH_ne {h : Nat} (hn : chH F n C' h ≠ none) : chH F n C h ≠ none := by
  unfold chH at hn ⊢
  by_cases h1 : h = 1000000
  · simp [h1]
  by_cases h2 : h = 1000001
  · simp [h2]
  by_cases h3 : h = 1000002
  · simp [h3]
  by_cases h4 : h / FB = 1000002 ∧ h % FB < n
  · simp [h1, h2, h3, h4]
  by_cases h5 : h / FB = 1000003 ∧ h % FB < n
  · simp [h1, h2, h3, h5]
  simp [h1, h2, h3, h4, h5] at hn
def okF (n : Nat) (F : Nat → AV) : Prop := F = kI n ∨ F = kS n
theorem okF_scrub (hF : okF n F) (p : Nat → Bool) (h1 : p 1000001 = false) (h2 : p 1000002 = false) : (fun i => (F i).scrub p) = F := by
  funext i
  rcases hF with rfl | rfl
  · match i with
    | 0 => rfl
    | 1 => simp [kI, vecF, AV.scrub, h1]
    | 2 => simp [kI, vecF, AV.scrub, h2]
    | i + 3 => rfl
  · match i with
    | 0 => rfl
    | 1 => simp [kS, vecF, AV.scrub, h2]
    | 2 => simp [kS, vecF, AV.scrub, h1]
    | i + 3 => rfl
theorem tF_scrub (T : Nat → Option (List Int)) (p : Nat → Bool) : (fun i => (tF T i).scrub p) = tF T := by
  funext i; unfold tF; cases T i <;> rfl
/-- A heap of a chain that is left alone by p. -/
theorem chH_scrub (hF : okF n F) (hn : n ≤ 20) (p : Nat → Bool) (h1 : p 1000001 = false) (h2 : p 1000002 = false) (h3 : ∀ i, i < n → p (sub 1000001 i) = false) (h4 : ∀ i, i < n → p (sub 1000002 i) = false) : (chH F n C).scrub p = chH F n C := by
  have e1 : (fun i => (gnF n C i).scrub p) = gnF n C := by
    funext i; unfold gnF; split
    · simp [AV.scrub, h3 i ‹_›]
    · rfl
  have e2 : (fun i => (tnF n i).scrub p) = tnF n := by
    funext i; unfold tnF; split
    · simp [AV.scrub, h4 i ‹_›]
    · rfl
  have e4 : ∀ i, (fun j => (cM ints [] (C.S i) j).scrub p) = cM ints [] (C.S i) := fun i => rfl
  funext h
  unfold Hp.scrub
  cases e : chH F n C h with
  | none => rfl
  | some B =>
    simp only [Option.map_some, Option.some.injEq]
    rcases chH_names e with ⟨_, rfl⟩ | ⟨_, rfl⟩ | ⟨_, rfl⟩ | ⟨i, _, _, rfl⟩ | ⟨i, _, _, rfl⟩
    · simp only [Blk.scrub, okF_scrub hF p h1 h2]
    · simp only [Blk.scrub, e1]
    · simp only [Blk.scrub, e2]
    · simp only [Blk.scrub, e4]
    · simp only [Blk.scrub, tF_scrub]
end
section
variable {P : Program} {N : Cx} {A : Fr} {H R : Hp} {F : Nat → AV} {n l : Nat} {C : Ch}
/-- A call that changes our chain. -/
theorem callCh {f : FuncId} {args : List AV} {Q : Ch → Prop} {K : AV → Fr → Hp → Prop} (hac : AC P f args (chH F n C) (pnC l) (postC F n Q)) (hF : okF n F) (hn : n ≤ 20) (hH : H = (chH F n C).add R)
    (hRs : R.scrub (pX l) = R) (hpn : ∀ h, N.pn h = true → pX l h = false)
    (hK : ∀ C', Q C' → K (.tup 0 (vecF [])) (A.scrub (pX l)) ((chH F n C').add R)) : CallG P N f args A H K := by
  subst hH
  refine callG_of hac (pX l) false (le_add _ _) (FitsL.refl _) (fun _ => rfl) ?_ hpn ?_
  · intro h hne hp
    cases e : chH F n C h with
    | none => exact absurd e hne
    | some B =>
      rcases chH_names e with ⟨rfl, _⟩ | ⟨rfl, _⟩ | ⟨rfl, _⟩ | ⟨i, hi, rfl, _⟩ | ⟨i, hi, rfl, _⟩
      · simp [pnC]
      · simp [pnC]
      · simp [pnC]
      · have hb : i < FB := by rw [FB_eq]; omega
        simp [pX, sub_div hb, sub_mod hb] at hp
        simp [pnC, sub_div hb, sub_mod hb, hp]
      · have hb : i < FB := by rw [FB_eq]; omega
        simp [pnC, sub_div hb]
  · rintro r H' ⟨rfl, C', hQ, rfl⟩
    refine ⟨fun h h1 h2 => absurd h2 (chH_ne h1), fun e => absurd e (by decide), ?_⟩
    have lv : ∀ h B, chH F n C' h = some B → (!liveB (chH F n C') h) = false := fun h B e => by simp [liveB, e]
    have e1 : (chH F n C').scrub (fun h => !liveB (chH F n C') h) = chH F n C' := chH_scrub hF hn _ (lv _ _ chH_g) (lv _ _ chH_t) (fun i hi => lv _ _ (chH_gs hi hn)) (fun i hi => lv _ _ (chH_ts hi hn))
    have e2 : Hp.over (chH F n C') (((chH F n C).add R).scrub (pX l)) (chH F n C) = (chH F n C').add R := by
      funext h
      unfold Hp.over
      cases e : chH F n C' h with
      | some B => rw [Hp.add_some e]
      | none =>
        have e3 : chH F n C h = none := by
          cases e4 : chH F n C h with
          | none => rfl
          | some B => exact absurd e (chH_ne (C := C') (C' := C) (by rw [e4]; simp))
        rw [e3, Hp.add_none e]
        have := congrFun hRs h
        simp only [Hp.scrub] at this ⊢
        rw [Hp.add_none e3, this]; rfl
    have e5 : (AV.tup 0 (vecF [])).scrub (fun h => !liveB (chH F n C') h) = .tup 0 (vecF []) := by
      simp only [AV.scrub]; congr 1
    rw [e1, e2, e5]
    exact hK C' hQ
def pB (h : Nat) : Bool := decide (1000000 ≤ h)
theorem pB_low {h : Nat} (hh : h < 1000000) : pB h = false := decide_eq_false (by omega)
def postN (F : Nat → AV) (n : Nat) (Q : Ch → Prop) : AV → Hp → Prop := fun r H => r = .ref 1000000 0 ∧ ∃ C, Q C ∧ H = chH F n C
/-- A call that makes a chain. -/
theorem callNew {f : FuncId} {args : List AV} {pn : Nat → Bool} {Q : Ch → Prop} {K : AV → Fr → Hp → Prop} (hac : AC P f args Hp.emp pn (postN F n Q)) (hF : okF n F) (hn : n ≤ 20) (hs : H.scrub pB = H) (hpn : N.pn = fun _ => false)
    (hK : ∀ C, Q C → K (.ref 1000000 0) (A.scrub pB) ((chH F n C).add H)) : CallG P N f args A H K := by
  refine callG_of hac pB false (fun h B e => by simp [Hp.emp] at e) (FitsL.refl _) (fun _ => rfl) (fun h hne => by simp [Hp.emp] at hne) (fun h e => by rw [hpn] at e; simp at e) ?_
  rintro r H' ⟨rfl, C, hQ, rfl⟩
  refine ⟨fun h hne _ => ?_, fun e => absurd e (by decide), ?_⟩
  · refine decide_eq_true (Classical.byContradiction fun hc => hne (chH_low (by omega)))
  · have lv : ∀ h B, chH F n C h = some B → (!liveB (chH F n C) h) = false := fun h B e => by simp [liveB, e]
    have e1 : (chH F n C).scrub (fun h => !liveB (chH F n C) h) = chH F n C := chH_scrub hF hn _ (lv _ _ chH_g) (lv _ _ chH_t) (fun i hi => lv _ _ (chH_gs hi hn)) (fun i hi => lv _ _ (chH_ts hi hn))
    have e2 : Hp.over (chH F n C) (H.scrub pB) Hp.emp = (chH F n C).add H := by
      funext h
      unfold Hp.over Hp.add
      cases chH F n C h with
      | some B => rfl
      | none => rw [hs]; rfl
    have e5 : (AV.ref 1000000 0).scrub (fun h => !liveB (chH F n C) h) = .ref 1000000 0 := by
      simp only [AV.scrub, lv _ _ chH_c]; rfl
    rw [e1, e2, e5]
    exact hK C hQ
/-- The end of a function that changes our chain. -/
theorem end_Ch {fn : Func} {Q : Ch → Prop} {C' : Ch} (hr : fn.results.toList = []) (hQ : Q C') (hl : Hp.le (chH F n C') H) : endQ P N fn (postC F n Q) .ret A H :=
  ⟨A, chH F n C', Go.Av.Sub.mk (fun _ _ h => h) hl, by rw [hr]; exact ⟨rfl, C', hQ, rfl⟩⟩
theorem end_Ch' {fn : Func} {Q : Ch → Prop} {C' : Ch} (hr : fn.results.toList = []) (hQ : Q C') (hl : Hp.le (chH F n C') H) : endQ P N fn (postC F n Q) .normal A H :=
  ⟨A, chH F n C', Go.Av.Sub.mk (fun _ _ h => h) hl, by rw [hr]; exact ⟨rfl, C', hQ, rfl⟩⟩
theorem apF_rows {n : Nat} {xs : List (List Int)} {y : List Int} {z : Nat → AV} (hn : n = xs.length) : ∀ i, i < n + 1 → apF n (cM ints [] xs) (setF z 0 (ints y)) i = cM ints [] (xs ++ [y]) i := by
  intro i hi
  subst hn
  simp only [apF, setF, cM_app]
  split
  · rw [getD_append, if_pos (by assumption)]
  · have e : i = xs.length := by omega
    subst e
    rw [if_pos (by omega), getD_append, if_neg (by omega), Nat.sub_self]; rfl
theorem sub_ne_sub {d e i j : Nat} (hi : i < 20) (hj : j < 20) (h : d ≠ e ∨ i ≠ j) : (sub d i == sub e j) = false := beq_eq_false_iff_ne.2 fun e1 => by
  obtain ⟨h1, h2⟩ := sub_inj (show i < FB by rw [FB_eq]; omega) (show j < FB by rw [FB_eq]; omega) e1
  rcases h with h | h
  · exact h h1
  · exact h h2
/-- A generator more, behind the append and the store. -/
theorem setS_awp {c : Code} {Qe : Exit → Fr → Hp → Prop} {p : List Int} {z : Nat → AV} (hF : okF n F) (hn : n ≤ 20) (hl : l < n) (h : AWP P N c Qe A ((chH F n (C.addS l p)).add Hp.emp)) :
    AWP P N c Qe A (((Hp.scrub (fun x => x == sub 1000001 l) (chH F n C)).upd (sub 1000001 l) (.cells ((C.S l).length + 1) (apF (C.S l).length (cM ints [] (C.S l)) (setF z 0 (ints p))))).upd 1000001 (.cells n (setF (scF (fun x => x == sub 1000001 l) (gnF n C)) l (.own (sub 1000001 l) 0 1 ((C.S l).length + 1))))) := by
  refine awp_sub (Go.Av.Sub.fits (fun _ => False) (fun i c hc => ⟨c, hc, .refl c⟩) fun x B' hB => ⟨id, ?_⟩) h
  have hB1 : chH F n (C.addS l p) x = some B' := by
    unfold Hp.add at hB
    cases e : chH F n (C.addS l p) x with
    | none => rw [e] at hB; simp [Hp.emp] at hB
    | some B => rw [e] at hB; exact hB
  have e0 : ∀ x, Hp.scrub (fun x => x == sub 1000001 l) (chH F n C) x = (chH F n C x).map (Blk.scrub (fun x => x == sub 1000001 l)) := fun _ => rfl
  have hS : (C.addS l p).S l = C.S l ++ [p] := Go.Pm.Ch.addS_self C l p
  rcases chH_names hB1 with ⟨rfl, rfl⟩ | ⟨rfl, rfl⟩ | ⟨rfl, rfl⟩ | ⟨i, hi, rfl, rfl⟩ | ⟨i, hi, rfl, rfl⟩
  · refine ⟨.cells 3 F, ?_, BFits.refl _ _ _⟩
    unfold Hp.upd
    rw [if_neg (by decide), if_neg (fun e => (sub_lits _ _).1 e.symm), e0, chH_c]
    simp only [Option.map_some, Blk.scrub, okF_scrub hF (fun x => x == sub 1000001 l) (sl1 _ _) (sl2 _ _)]
  · refine ⟨.cells n (setF (scF (fun x => x == sub 1000001 l) (gnF n C)) l (.own (sub 1000001 l) 0 1 ((C.S l).length + 1))), by unfold Hp.upd; rw [if_pos rfl], rfl, fun i hi => ?_⟩
    by_cases e : i = l
    · subst e
      rw [show setF _ i _ i = _ from if_pos rfl, gnF_app _ hi, hS, List.length_append]; exact .refl _
    · rw [show setF _ l _ i = _ from if_neg e, gnF_app _ hi, Go.Pm.Ch.addS_ne _ _ e]
      unfold scF
      rw [gnF_app _ hi]
      simp only [AV.scrub, sub_ne_sub (show i < 20 by omega) (show l < 20 by omega) (.inr e)]
      exact .refl _
  · refine ⟨.cells n (tnF n), ?_, BFits.refl _ _ _⟩
    unfold Hp.upd
    rw [if_neg (by decide), if_neg (fun e => (sub_lits _ _).2.2 e.symm), e0, chH_t]
    simp only [Option.map_some, Blk.scrub]
    congr 2; funext i; unfold tnF; split
    · simp only [AV.scrub, sub_ne_sub (d := 1000002) (e := 1000001) (show i < 20 by omega) (show l < 20 by omega) (.inl (by decide))]; rfl
    · rfl
  · by_cases e : i = l
    · subst e
      refine ⟨_, by unfold Hp.upd; rw [if_neg (sub_lits _ _).2.1, if_pos rfl], ?_⟩
      rw [hS]
      exact ⟨by simp, fun j hj => by rw [apF_rows rfl j hj]; exact .refl _⟩
    · refine ⟨.cells (C.S i).length (cM ints [] (C.S i)), ?_, by rw [Go.Pm.Ch.addS_ne _ _ e]; exact BFits.refl _ _ _⟩
      unfold Hp.upd
      have := sub_ne_sub (d := 1000001) (e := 1000001) (show i < 20 by omega) (show l < 20 by omega) (.inr e)
      rw [if_neg (sub_lits _ _).2.1, if_neg (beq_eq_false_iff_ne.1 this), e0, chH_gs hi hn]
      rfl
  · refine ⟨.cells n (tF (C.T i)), ?_, BFits.refl _ _ _⟩
    unfold Hp.upd
    have := sub_ne_sub (d := 1000002) (e := 1000001) (show i < 20 by omega) (show l < 20 by omega) (.inl (by decide))
    rw [if_neg (sub_lits _ _).2.1, if_neg (beq_eq_false_iff_ne.1 this), e0, chH_ts hi hn]
    simp only [Option.map_some, Blk.scrub, tF_scrub]
/-- A representative more, behind the store. -/
theorem setT_le {k : Nat} {t : List Int} (hn : n ≤ 20) (hl : l < n) : Hp.le ((chH F n (C.setT l k t)).add R) (((chH F n C).add R).upd (sub 1000002 l) (.cells n (setF (tF (C.T l)) k (ints t)))) := by
  intro x B hB
  unfold Hp.add at hB
  unfold Hp.upd Hp.add
  cases e : chH F n (C.setT l k t) x with
  | none =>
    rw [e] at hB
    have e3 : chH F n C x = none := by
      cases e4 : chH F n C x with
      | none => rfl
      | some B => exact absurd e (chH_ne (C := C.setT l k t) (C' := C) (by rw [e4]; simp))
    have e5 : x ≠ sub 1000002 l := fun h => by rw [h, chH_ts hl hn] at e; simp at e
    rw [if_neg e5, e3]; exact hB
  | some B' =>
    rw [e] at hB
    simp only [Option.some.injEq] at hB
    subst hB
    rcases chH_names e with ⟨rfl, rfl⟩ | ⟨rfl, rfl⟩ | ⟨rfl, rfl⟩ | ⟨i, hi, rfl, rfl⟩ | ⟨i, hi, rfl, rfl⟩
    · rw [if_neg (fun e => (sub_lits _ _).1 e.symm), chH_c]
    · rw [if_neg (fun e => (sub_lits _ _).2.1 e.symm), chH_g]; rfl
    · rw [if_neg (fun e => (sub_lits _ _).2.2 e.symm), chH_t]
    · have := sub_ne_sub (d := 1000001) (e := 1000002) (show i < 20 by omega) (show l < 20 by omega) (.inl (by decide))
      rw [if_neg (beq_eq_false_iff_ne.1 this), chH_gs hi hn]; rfl
    · by_cases h : i = l
      · subst h
        rw [if_pos rfl]
        congr 2
        funext y
        unfold setF tF
        rw [Go.Pm.Ch.setT_self]
        by_cases hy : y = k
        · subst hy; simp
        · rw [if_neg hy, if_neg hy]
      · have := sub_ne_sub (d := 1000002) (e := 1000002) (show i < 20 by omega) (show l < 20 by omega) (.inr h)
        rw [if_neg (beq_eq_false_iff_ne.1 this), chH_ts hi hn, Go.Pm.Ch.setT_ne _ _ _ h]
theorem setT_awp {c : Code} {Qe : Exit → Fr → Hp → Prop} {k : Nat} {t : List Int} (hn : n ≤ 20) (hl : l < n) (h : AWP P N c Qe A ((chH F n (C.setT l k t)).add R)) :
    AWP P N c Qe A (((chH F n C).add R).upd (sub 1000002 l) (.cells n (setF (tF (C.T l)) k (ints t)))) :=
  awp_sub (Go.Av.Sub.mk (fun _ _ h => h) (setT_le hn hl)) h
theorem sub46 {d : Nat} {f g : Nat → AV} {m : Nat} (hd : d < 1000000) (hR : R d = some (.cells m f)) (hg : ∀ i, i < m → f i = g i) : Go.Av.Sub N A ((chH F n C).add R) A ((chH F n C).add (R.upd d (.cells m g))) := by
  refine Go.Av.Sub.fits (fun _ => False) (fun i c hc => ⟨c, hc, .refl c⟩) fun x B hB => ⟨id, ?_⟩
  unfold Hp.add Hp.upd at hB
  unfold Hp.add
  cases e : chH F n C x with
  | some B' => rw [e] at hB; exact ⟨B', rfl, by simp only [Option.some.injEq] at hB; subst hB; exact BFits.refl _ _ _⟩
  | none =>
    rw [e] at hB
    dsimp only at hB ⊢
    split at hB
    · rename_i e1
      subst e1
      simp only [Option.some.injEq] at hB
      subst hB
      exact ⟨_, hR, rfl, fun i hi => by rw [hg i hi]; exact .refl _⟩
    · exact ⟨B, hB, BFits.refl _ _ _⟩
theorem scrub_rows {d m : Nat} {xs : List (List Int)} (q : Nat → Bool) : Hp.scrub q (Hp.emp.upd d (.cells m (cM ints [] xs))) = Hp.emp.upd d (.cells m (cM ints [] xs)) := by
  funext x
  unfold Hp.scrub Hp.upd
  split
  · rfl
  · rfl
theorem add_awp {c : Code} {Qe : Exit → Fr → Hp → Prop} (h : AWP P N c Qe A ((chH F n C).add Hp.emp)) : AWP P N c Qe A (chH F n C) :=
  awp_sub (Go.Av.Sub.mk (fun _ _ h => h) (le_of_eq_add _)) h
theorem chA_upd {h : Nat} {B : Blk} (hh : h < 1000000) : ((chH F n C).add R).upd h B = (chH F n C).add (R.upd h B) := by
  funext x
  unfold Hp.upd Hp.add
  by_cases e : x = h
  · subst e; rw [chH_low hh]
  · simp only [if_neg e]
theorem chA_scrub {h : Nat} (hF : okF n F) (hn : n ≤ 20) (hh : h < 1000000) : ((chH F n C).add R).scrub (fun x => x == h) = (chH F n C).add (R.scrub (fun x => x == h)) := by
  have h1 : ∀ d i, (sub d i == h) = false := fun d i => beq_eq_false_iff_ne.2 fun e => by have := sub_ge d i; rw [FB_eq] at this; omega
  have e1 := chH_scrub (C := C) hF hn (fun x => x == h) (beq_eq_false_iff_ne.2 (by omega)) (beq_eq_false_iff_ne.2 (by omega)) (fun i _ => h1 _ i) (fun i _ => h1 _ i)
  funext x
  have := congrFun e1 x
  unfold Hp.scrub at this ⊢
  unfold Hp.add
  cases e : chH F n C x with
  | none => rfl
  | some B => rw [e] at this; exact this
end
end Go.Proofs.Ytfgblelbhlpfjaa
