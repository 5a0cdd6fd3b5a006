import Derived.Test.YtiihgbobdipikaaJ8
import Derived.Test.YtiihgbobdipikaaJ3
/- The program explores a puzzle, its states and depths ours. -/
namespace Go.Proofs.Ytiihgbobdipikaa
open Go.Av
set_option linter.unusedSimpArgs false
set_option linter.unusedVariables false
attribute [local irreducible] AWP CallG Ob Br BrP Go.Av.Sub endQ AOps OpV AC thenA blkA opsVC opVC withA withArgs opsQ opQ CallQ withA2 withArgs2
open Go.Pm (Pm comp invp idn img Gen Bf srch sorts srtN Srt slot sidx insAt)
theorem lengthD_ok (n : Nat) : AC Try.prog 97 [.list false 1 n (fun _ => .dead)] Hp.emp (fun _ => false) (retV (.v (.int .i64 ((n : Int))))) := by
  refine ac_of_awp (N := ⟨_, fun _ => false, fun _ _ => rfl⟩) Try.func97 rfl (by kernel_rfl) Try.ntmps97 (by simp) ?_
  simp only [argsFr, List.zipIdx_cons, List.zipIdx_nil, go_sem]
  repeat' (first | refine awp_seqK fun K hK => ?_ | (refine awp_regionK 5 rfl ?_; simp only [List.map_cons, List.map_nil]; simp (maxSteps := 1000000) (dsimp := false) (implicitDefEqProofs := false) (disch := omega) only [wrap64, go_sem]) | (refine awp_regionQK 5 (by kernel_rfl) (by kernel_rfl) (by kernel_rfl) ?_; simp only [List.map_cons, List.map_nil]; simp (maxSteps := 1000000) (dsimp := false) (implicitDefEqProofs := false) (disch := omega) only [wrap64, go_sem]) | refine awp_block ?_ | (refine awp_skip ?_; simp only [go_sem]) | (refine awp_exit ?_; simp only [go_sem]) | (refine awp_ret ?_; try simp only [go_sem]) | (refine awp_condP rfl ?_; try simp only [go_sem]) | (refine BrP.mk (fun h => ?_) (fun h => ?_) <;> try simp (dsimp := false) (disch := omega) only [wrap64]) | (refine Br.mk (fun h => ?_) (fun h => ?_) <;> try simp (dsimp := false) (disch := omega) only [wrap64]) | refine Ob.mk (by first | omega | (intro _ _; rfl) | trivial | (intros; trivial) | assumption | (intro i hi; have h0 : i = 0 := (by omega); subst h0; first | rfl | trivial) | (intro i hi; have h0 : i = 0 ∨ i = 1 := (by omega); rcases h0 with rfl | rfl <;> rfl) | (intro i hi; have h0 : i = 0 ∨ i = 1 ∨ i = 2 := (by omega); rcases h0 with rfl | rfl | rfl <;> rfl)) ?_ | apply_assumption -exfalso -symm)
  all_goals (first | (show endQ _ _ _ _ _ _ _; (repeat (rename (∀ (A : Fr) (H : Hp), AWP _ _ _ _ A H → _) => hK; clear hK)); (repeat (rename (Fr → Hp → Prop) => K; clear K))) | (show Exists _; (repeat (rename (∀ (A : Fr) (H : Hp), AWP _ _ _ _ A H → _) => hK; clear hK)); (repeat (rename (Fr → Hp → Prop) => K; clear K))) | skip)
  exact end_retV rfl rfl
/-- What lies in memory while the program explores. -/
def exFO (p : Pz) (X : Bf) : Nat → AV := vecF [.v (.int .i64 (p.n)), .v (.string (p.s)), .list false 1 (p.m).length (cM ints [] (p.m)), .own 1000001 0 1 X.st.length, .own 1000002 0 1 X.dp.length, .map 25, .own 29 0 1 X.pa.length, .own 30 0 1 X.bl.length, .own 40 0 1 X.nx.length]
def hER (p : Pz) (X : Bf) : Hp := ((((((Hp.emp.upd 1 (.cells 3 (vecF [.v (.int .i64 (p.n)), .v (.string (p.s)), .list false 1 (p.m).length (cM ints [] (p.m))]))).upd 1000002 (.cells X.dp.length (cM iv 0 X.dp))).upd 25 (.mp (mS iv (kvs X.st)))).upd 29 (.cells X.pa.length (cM iv 0 X.pa))).upd 30 (.cells X.bl.length (cM iv 0 X.bl))).upd 40 (.cells X.nx.length (cM ints [] X.nx))).upd 1000000 (.cells 9 (exFO p X))
def hEO (p : Pz) (X : Bf) : Hp := (PR 1000001 X.st X.st.length X.st.length).add (hER p X)
def hIO (p : Pz) (X : Bf) (st0 xs : List (List Int)) (sel : List Nat) (r : List Int) : Hp := ((RR 54 xs).add ((PR 1000001 st0 st0.length st0.length).add ((hER p X).upd 99 (.cells r.length (cM iv 0 r))))).upd 1000001 (.cells X.st.length (selF 1000001 54 st0.length sel X.st))
theorem hER_low {p : Pz} {X : Bf} {H : Hp} {e : Nat} (hH : Hp.le (hER p X) H) (he : e = 20 ∨ e = 1000001 ∨ e = 54 ∨ e = 99) : ∀ g B, hER p X g = some B → H g = some B ∧ g ≠ e ∧ g ≠ 1000001 ∧ g < 2097152 ∧ B.low := by
  have key : ∀ g B, hER p X g = some B → g ≠ e ∧ g ≠ 1000001 ∧ g < 2097152 ∧ B.low := by
    unfold hER
    refine low_upd ⟨by omega, by omega, by omega, fun i => low_vecF (fun a ha => ?_) i⟩ (low_upd ⟨by omega, by omega, by omega, fun i => trivial⟩ (low_upd ⟨by omega, by omega, by omega, fun i => trivial⟩ (low_upd ⟨by omega, by omega, by omega, fun i => trivial⟩ (low_upd ⟨by omega, by omega, by omega, fun x hx => ?_⟩ (low_upd ⟨by omega, by omega, by omega, fun i => trivial⟩ (low_upd ⟨by omega, by omega, by omega, fun i => low_vecF (fun a ha => ?_) i⟩ low_emp))))))
    · simp only [List.mem_cons, List.not_mem_nil, or_false] at ha
      rcases ha with rfl | rfl | rfl | rfl | rfl | rfl | rfl | rfl | rfl <;> simp [AV.low]
    · obtain ⟨y, hy, rfl⟩ := List.mem_map.1 hx
      trivial
    · simp only [List.mem_cons, List.not_mem_nil, or_false] at ha
      rcases ha with rfl | rfl | rfl <;> trivial
  exact fun g B hB => ⟨hH g B hB, key g B hB⟩
theorem hIO_lo (p : Pz) (X : Bf) (r : List Int) : ∀ h B, ((hER p X).upd 99 (.cells r.length (cM iv 0 r))) h = some B → h < 2097152 := fun h B hB => by
  unfold Hp.upd at hB
  split at hB
  · omega
  · exact (hER_low (p := p) (X := X) (H := hER p X) (e := 99) (Hp.le_refl _) (.inr (.inr (.inr rfl))) h B hB).2.2.2.1
theorem hER_scr (p : Pz) (X : Bf) : (hER p X).scrub (· == 99) = hER p X := by
  unfold hER exFO
  simp only [Hp.scrub_upd, Hp.scrub_emp, Blk.scrub_cells, Blk.scrub_mp, mS_scrub_iv, scF_vecF, List.map_cons, List.map_nil, AV.scrub, Nat.reduceBEq, Bool.false_eq_true, if_false]
  rfl
theorem start_IO {N : Cx} {A A' : Fr} {p : Pz} {X : Bf} {xs : List (List Int)} (hpn : N.pn = fun _ => false) (h8 : A.get 8 = some (.v (.slice none 0 0))) (hA : Fr.sub ((8, .own 99 0 1 0) :: A.scrub (· == 99)) A') : Sub N A ((RR 54 xs).add (hEO p X)) A' (hIO p X X.st xs [] []) := by
  have e : (((RR 54 xs).add (hEO p X)).upd 99 (.cells 0 (cM iv 0 []))).scrub (· == 99) = ((RR 54 xs).add (hEO p X)).upd 99 (.cells 0 (cM iv 0 [])) := by
    rw [Hp.scrub_upd, Hp.scrub_add (by omega)]
    unfold hEO
    rw [Hp.scrub_add (by omega), hER_scr]; rfl
  have hlo := fun (Y : Nat) hY => hER_low (p := p) (X := X) (H := hER p X) (e := Y) (Hp.le_refl _) hY
  refine Sub.trans (Sub.nil (i := 8) 99 1 (cM iv 0 []) h8 (by rw [hpn])) ?_
  rw [e]
  refine Sub.toLF hA (leF_in (R0 := hER p X) (f := mixF 1000001 X.st X.st.length) (by omega) (fun _ _ h => h) (fun h hh => by unfold Hp.upd; rw [if_neg (by omega)]; rfl) ?_ ?_ rfl (fun i hi => ?_) (leF_upd ?_ (.refl _ _ _) (fun g B hB => ⟨id, B, ?_, .refl _ _ _⟩) id) (fun g B hB => ?_))
  · unfold Hp.upd; rw [if_neg (by omega)]; exact add_self _ _ _ _ _
  · unfold Hp.upd; rw [if_neg (by omega), add_low (by rw [FB_eq]; omega) (by omega)]; exact add_self _ _ _ _ _
  · rw [mixF_lt hi]; unfold selF; rw [if_pos hi]
  · unfold Hp.upd; rw [if_pos rfl]; rfl
  · obtain ⟨k1, k2, k3, k4, k5⟩ := hlo 99 (.inr (.inr (.inr rfl))) g B hB
    obtain ⟨j1, j2, _⟩ := hlo 54 (.inr (.inr (.inl rfl))) g B hB
    unfold Hp.upd; rw [if_neg k2, add_low (by rw [FB_eq]; omega) j2]
    show (PR _ _ _ _).add _ g = _
    rw [add_low (by rw [FB_eq]; omega) k3]; exact k1
  · unfold Hp.upd at hB
    split at hB
    · omega
    · exact (hlo 99 (.inr (.inr (.inr rfl))) g B hB).2.2.2.1
/-- What explore leaves, its states and depths ours. -/
def exO (p : Pz) (X : Bf) : Hp := (RR 1000001 X.st).add ((Hp.emp.upd 1000000 (.cells 9 (vecF [.v (.int .i64 (p.n)), .v (.string (p.s)), .list false 1 (p.m).length (cM ints [] (p.m)), .own 1000001 0 1 X.st.length, .own 1000002 0 1 X.dp.length, .dead, .dead, .dead, .dead]))).upd 1000002 (.cells X.dp.length (cM iv 0 X.dp)))
def postO (p : Pz) (r : AV) (H : Hp) : Prop := ((XS p).isSome = true ∧ r = .tup 2 (vecF [.ref 1000000 0, .v (.bool (true))]) ∧ H = exO p (XA p)) ∨ ((XS p).isSome = false ∧ r = .tup 2 (vecF [.v (.pointer none), .v (.bool (false))]) ∧ H = Hp.emp)
def trO (h : Nat) : Nat := if h = 1000001 then 23 else if h = 23 then 1000001 else if h = 1000002 then 24 else if h = 24 then 1000002 else if h = 1000000 then 32 else if h = 32 then 1000000 else h
theorem le_free {H' H : Hp} {g : Nat} {b : Blk} (h : H' g = none) (k : Hp.le H' H) : Hp.le H' (H.upd g b) := fun x B hB => by
  unfold Hp.upd
  by_cases e : x = g
  · subst e; rw [h] at hB; cases hB
  · rw [if_neg e]; exact k x B hB
theorem trO_trO (h : Nat) : trO (trO h) = h := by
  by_cases a1 : h = 1000001
  · subst a1; rfl
  by_cases a2 : h = 23
  · subst a2; rfl
  by_cases a3 : h = 1000002
  · subst a3; rfl
  by_cases a4 : h = 24
  · subst a4; rfl
  by_cases a5 : h = 1000000
  · subst a5; rfl
  by_cases a6 : h = 32
  · subst a6; rfl
  have e : trO h = h := by unfold trO; rw [if_neg a1, if_neg a2, if_neg a3, if_neg a4, if_neg a5, if_neg a6]
  rw [e, e]
def rhO (h : Nat) : Option Nat := if h = 40 then none else some (trO h)
theorem rhO_inj {x y k : Nat} (hx : rhO x = some k) (hy : rhO y = some k) : x = y := by
  unfold rhO at hx hy
  split at hx
  · cases hx
  · split at hy
    · cases hy
    · simp only [Option.some.injEq] at hx hy
      rw [← trO_trO x, ← trO_trO y, hx, hy]
set_option maxHeartbeats 8000000 in
theorem exploreO_ok (p : Pz) (hs0 : p.s.size ≤ 140737488355328) : AC Try.prog 64 [pz p] Hp.emp (fun _ => false) (postO p) := by
  have hid : isPz p → AC Try.prog 102 [.v (.int .i64 (p.n))] Hp.emp (fun _ => false) (retI 20 (idn p.n.toNat)) := fun h => by
    have := h.n
    have e := implIdentity_ok p.n.toNat (by omega) 20
    rwa [show ((p.n.toNat : Nat) : Int) = p.n by omega] at e
  have hz : 1 ≤ ((cntP p : Nat) : Int) ∧ ((cntP p : Nat) : Int) ≤ 3000 → isPz p := cnt_some
  have hB : isPz p → isB (idn p.n.toNat) := fun h => isB_of h.n20 (idn_in _)
  have hl : (idn p.n.toNat).length = p.n.toNat := Go.Pm.idn_length _
  refine ac_of_awp (N := ⟨_, fun _ => false, fun _ _ => rfl⟩) Try.func64 rfl (by kernel_rfl) Try.ntmps64 (by simp) ?_
  simp only [argsFr, List.zipIdx_cons, List.zipIdx_nil, go_sem]
  repeat' (first | (refine awp_regionFK (id := 4) 9445003190513025826815 11 [23,24,25,29,30] [[],[],[23],[24],[25],[],[],[25],[25],[29],[30]] (by kernel_rfl) (by kernel_rfl) (by kernel_rfl) (by simp only [go_sem, List.contains_cons, List.contains_nil, Nat.reduceBEq, Bool.or_self, Bool.false_eq_true, if_false]) (by simp only [go_sem, List.contains_cons, List.contains_nil, Nat.reduceBEq, Bool.or_self, Bool.false_eq_true, if_false]) (by simp only [noneAll, go_sem, Nat.reduceEqDiff, if_false, and_self]) ?_; simp only [List.map_cons, List.map_nil, List.take_succ_cons, List.take_zero, List.drop_succ_cons, List.drop_zero]; simp (maxSteps := 1000000) (dsimp := false) (implicitDefEqProofs := false) (disch := omega) only [wrap64, go_sem]) | refine awp_seqK fun K hK => ?_ | (refine awp_regionK 9445003190513025826815 rfl ?_; simp only [List.map_cons, List.map_nil]; simp (maxSteps := 1000000) (dsimp := false) (implicitDefEqProofs := false) (disch := omega) only [wrap64, go_sem]) | (refine awp_regionQK 9445003190513025826815 (by kernel_rfl) (by kernel_rfl) (by kernel_rfl) ?_; simp only [List.map_cons, List.map_nil]; simp (maxSteps := 1000000) (dsimp := false) (implicitDefEqProofs := false) (disch := omega) only [wrap64, go_sem]) | refine awp_block ?_ | (refine awp_skip ?_; simp only [go_sem]) | (refine awp_exit ?_; simp only [go_sem]) | (refine awp_ret ?_; try simp only [go_sem]) | (refine awp_condP rfl ?_; try simp only [go_sem]) | (refine BrP.mk (fun h => ?_) (fun h => ?_) <;> try simp (dsimp := false) (disch := omega) only [wrap64]) | (refine Br.mk (fun h => ?_) (fun h => ?_) <;> try simp (dsimp := false) (disch := omega) only [wrap64]) | refine Ob.mk (by first | omega | (intro _ _; rfl) | trivial | (intros; trivial) | assumption | (intro i hi; have h0 : i = 0 := (by omega); subst h0; first | rfl | trivial) | (intro i hi; have h0 : i = 0 ∨ i = 1 := (by omega); rcases h0 with rfl | rfl <;> rfl) | (intro i hi; have h0 : i = 0 ∨ i = 1 ∨ i = 2 := (by omega); rcases h0 with rfl | rfl | rfl <;> rfl)) ?_ | ((first | ((first | refine atF (f := 101) ?_ | refine atQ (f := 101) ?_); (first | (refine cV (hac := implStateCount_ok p hs0) (hK := ?_)) | (refine cQV (hac := implStateCount_ok p hs0) (hK := ?_)))) | ((first | refine atF (f := 100) ?_ | refine atQ (f := 100) ?_); (first | (refine cV (hac := within_ok _ _ _) (hK := ?_)) | (refine cQV (hac := within_ok _ _ _) (hK := ?_)))) | (refine cI (hac := hid (hz (by assumption))) (hK := ?_)) | (refine cQI (hac := hid (hz (by assumption))) (hK := ?_)) | ((first | refine atF (f := 103) ?_ | refine atQ (f := 103) ?_); (first | (refine cV (hac := stateKey_ok (idn p.n.toNat) (by have := (hz (by assumption)).n; omega) (hB (hz (by assumption)))) (hK := ?_)) | (refine cQV (hac := stateKey_ok (idn p.n.toNat) (by have := (hz (by assumption)).n; omega) (hB (hz (by assumption)))) (hK := ?_)))) | ((first | refine atF (f := 73) ?_ | refine atQ (f := 73) ?_); (first | (refine cFI (hac := letters_ok p.m.length (by have := (hz (by assumption)).1.2.1; omega) 36) (hK := ?_)) | (refine cQI (hac := letters_ok p.m.length (by have := (hz (by assumption)).1.2.1; omega) 36) (hK := ?_))))); simp (maxSteps := 1000000) (dsimp := false) (implicitDefEqProofs := false) (disch := omega) only [wrap64, go_sem]) | apply_assumption -exfalso -symm)
  all_goals (first | (show endQ _ _ _ _ _ _ _; (repeat (rename (∀ (A : Fr) (H : Hp), AWP _ _ _ _ A H → _) => hK; clear hK)); (repeat (rename (Fr → Hp → Prop) => K; clear K))) | (show Exists _; (repeat (rename (∀ (A : Fr) (H : Hp), AWP _ _ _ _ A H → _) => hK; clear hK)); (repeat (rename (Fr → Hp → Prop) => K; clear K))) | skip)
  · have hp := hz (by assumption)
    obtain ⟨L, hL1, hL2, hL3⟩ := cnt_list hp
    have hL4 : L.length ≤ 3000 := by omega
    have hG := lsP_pm hp
    have hb0 := idn_in p.n.toNat
    have hm := hp.1.2.1
    have hn := hp.n
    have hlm := lsP_length p
    have hll := lets_length p.m.length
    have hcl : ∀ k i, (∀ j, j ≤ k → j < (Bf.run (lsP p) (idn p.n.toNat) j).st.length) → i ≤ (lsP p).length → ((Bf.run (lsP p) (idn p.n.toNat) k).rows (lsP p) k i).1.st.length ≤ 3000 := fun k i h hi => Nat.le_trans (Bf.rows_le hG (fun g hg => (hL3 g).2 hg) h hi) hL4
    clear hid hB hL1 hL2 hL3 hL4
    refine awp_loop (ι := Nat) (fun k => [(7, .v (.int .i64 (k))), (6, .list false 1 (lets p.m.length).length (cM iv 0 (lets p.m.length))), (5, .ref 1000000 0), (1, .ref 1 0)]) (fun k => hEO p (Bf.run (lsP p) (idn p.n.toNat) k)) (fun k => (∀ j, j < k → j < (Bf.run (lsP p) (idn p.n.toNat) j).st.length) ∧ (Bf.run (lsP p) (idn p.n.toNat) k).st.length ≤ 3000) (fun k => 3001 - k) 0 ⟨fun j hj => absurd hj (Nat.not_lt_zero j), by simp [Bf.run]⟩ ?_ ?_
    · refine Sub.trans (?_ : Sub _ _ _ [(7, .v (.int .i64 (0))), (6, .list false 1 (lets p.m.length).length (cM iv 0 (lets p.m.length))), (5, .ref 1000000 0), (1, .ref 1 0)] (((hER p ⟨[idn p.n.toNat], [0], [0], [0], []⟩).upd 20 (.cells (idn p.n.toNat).length (cM iv 0 (idn p.n.toNat)))).upd 1000001 (.cells 1 (fun _ => .own 20 0 1 (idn p.n.toNat).length)))) ?_
      · refine Sub.layM rhO rfl ?_ ?_ (fun x y k hx hy h1 h2 => rhO_inj h1 h2)
        · exact lay_cons ⟨_, rfl, .plain trivial⟩ (lay_cons ⟨_, rfl, .plain trivial⟩ (lay_cons ⟨_, rfl, .ref rfl⟩ (lay_cons ⟨_, rfl, .ref rfl⟩ lay_nil)))
        · refine layF_upd (g := 23) (n := 1) rfl rfl (fun i hi => ?_) (layF_upd (g := 20) (n := (idn p.n.toNat).length) rfl rfl (fun i hi => .plain trivial) (layF_upd (g := 32) (n := 9) rfl rfl (fun i hi => ?_) (layF_nil rfl (layF_upd (g := 30) (n := 1) rfl rfl (fun i hi => ?_) (layF_upd (g := 29) (n := 1) rfl rfl (fun i hi => ?_) (layF_map (g := 25) rfl rfl ?_ (layF_upd (g := 24) (n := 1) rfl rfl (fun i hi => ?_) (layF_upd (g := 1) (n := 3) rfl rfl (fun i hi => ?_) layF_emp))))))))
          · match i, hi with
            | 0, _ => exact .own rfl
          · match i, hi with
            | 0, _ => exact .plain trivial
            | 1, _ => exact .plain trivial
            | 2, _ => exact .plain trivial
            | 3, _ => exact .own rfl
            | 4, _ => exact .own rfl
            | 5, _ => exact .map rfl
            | 6, _ => exact .own rfl
            | 7, _ => exact .own rfl
            | 8, _ => exact .nil rfl
          · exact .plain trivial
          · exact .plain trivial
          · intro x hx
            have := List.mem_singleton.1 hx
            subst this; trivial
          · exact .plain trivial
          · match i, hi with
            | 0, _ => exact .plain trivial
            | 1, _ => exact .plain trivial
            | 2, _ => exact .plain trivial
      · refine Sub.absorb (d := 1000001) (e := 20) (k := 0) (n := 1) (xss := [idn p.n.toNat]) (H' := hER p ⟨[idn p.n.toNat], [0], [0], [0], []⟩) (f := fun _ => .own 20 0 1 (idn p.n.toNat).length) (by omega) (by omega) (by omega) (by omega) (by omega) rfl rfl (fun i hi => ?_) rfl (fun i hi => absurd hi (Nat.not_lt_zero i)) (by simp only [go_sem] <;> first | trivial | (simp only [Option.some.injEq, AV.v.injEq, AV.own.injEq, AV.list.injEq, Value.int.injEq, Value.bool.injEq, true_and, and_true]; first | omega | (simp; done)) | (simp; done) | (simp; omega)) (by simp only [Fr.low, AV.low, and_true, true_and]; omega) (hER_low (le_free rfl (le_free rfl (Hp.le_refl _))) (.inl rfl))
        obtain rfl : i = 0 := by omega
        rfl
    rintro k ⟨hk, hk3⟩
    have hJ := Bf.J.run hG hb0 k hk
    have hld := hJ.ld
    have hk4 : k ≤ 3000 := by
      by_cases e : k = 0
      · omega
      · have h1 := hk (k - 1) (by omega)
        have h2 := (Bf.run_more (Ls := lsP p) (s0 := idn p.n.toNat) (show k - 1 ≤ k by omega)).st.length_le
        omega
    have hst : k < (Bf.run (lsP p) (idn p.n.toNat) k).st.length → isSt p ((Bf.run (lsP p) (idn p.n.toNat) k).st.getD k []) := fun h => isSt_J hp hJ (Go.Pm.mem_getD h)
    have hnl := nbrs_length p ((Bf.run (lsP p) (idn p.n.toNat) k).st.getD k [])
    have hmix : k < (Bf.run (lsP p) (idn p.n.toNat) k).st.length → mixF 1000001 (Bf.run (lsP p) (idn p.n.toNat) k).st (Bf.run (lsP p) (idn p.n.toNat) k).st.length k = .own (sub 1000001 k) 0 1 ((Bf.run (lsP p) (idn p.n.toNat) k).st.getD k []).length := fun h => mixF_lt h
    obtain ⟨xs, hxs⟩ : ∃ xs, xs = nbrs p ((Bf.run (lsP p) (idn p.n.toNat) k).st.getD k []) := ⟨_, rfl⟩
    unfold hEO hER exFO
    repeat' (first | (refine And.intro ?_ ?_) | (show Sub _ _ _ _ _; exact Sub.toL (by simp only [go_sem] <;> first | trivial | (simp only [Option.some.injEq, AV.v.injEq, AV.own.injEq, AV.list.injEq, Value.int.injEq, Value.bool.injEq, true_and, and_true]; first | omega | (simp; done)) | (simp; done) | (simp; omega)) (Hp.le_refl _)) | ((refine awp_regionTn (id := 10) 8 [(56, .v (.int .i64 (0))), (55, .v (.int .i64 (xs.length))), (54, .own 54 0 1 xs.length), (8, .v (.slice none 0 0)), (7, .v (.int .i64 (k))), (6, .list false 1 (lets p.m.length).length (cM iv 0 (lets p.m.length))), (5, .ref 1000000 0), (1, .ref 1 0)] ((RR 54 xs).add (hEO p (Bf.run (lsP p) (idn p.n.toNat) k))) rfl rfl rfl (by kernel_rfl) (by kernel_rfl) (by kernel_rfl) ?_ ?_ <;> unfold hEO hER exFO <;> (try simp only [opsT, List.dropLast, List.getLast, List.cons_append, List.nil_append, List.map_cons, List.map_nil, List.take_succ_cons, List.take_zero, List.drop_succ_cons, List.drop_zero, ilVC])) <;> simp (maxSteps := 1000000) (dsimp := false) (implicitDefEqProofs := false) (disch := omega) only [wrap64, go_sem, hxs.symm, hmix]) | refine awp_seqK fun K hK => ?_ | (refine awp_regionK 9445003190513025826815 rfl ?_; simp only [List.map_cons, List.map_nil]; simp (maxSteps := 1000000) (dsimp := false) (implicitDefEqProofs := false) (disch := omega) only [wrap64, go_sem, hxs.symm, hmix]) | (refine awp_regionQK 9445003190513025826815 (by kernel_rfl) (by kernel_rfl) (by kernel_rfl) ?_; simp only [List.map_cons, List.map_nil]; simp (maxSteps := 1000000) (dsimp := false) (implicitDefEqProofs := false) (disch := omega) only [wrap64, go_sem, hxs.symm, hmix]) | refine awp_block ?_ | (refine awp_skip ?_; simp only [go_sem, hxs.symm, hmix]) | (refine awp_exit ?_; simp only [go_sem, hxs.symm, hmix]) | (refine awp_ret ?_; try simp only [go_sem, hxs.symm, hmix]) | (refine awp_condP rfl ?_; try simp only [go_sem, hxs.symm, hmix]) | (refine BrP.mk (fun h => ?_) (fun h => ?_) <;> try simp (dsimp := false) (disch := omega) only [wrap64]) | (refine Br.mk (fun h => ?_) (fun h => ?_) <;> try simp (dsimp := false) (disch := omega) only [wrap64]) | refine Ob.mk (by first | omega | (intro _ _; rfl) | trivial | (intros; trivial) | assumption | (intro i hi; have h0 : i = 0 := (by omega); subst h0; first | rfl | trivial) | (intro i hi; have h0 : i = 0 ∨ i = 1 := (by omega); rcases h0 with rfl | rfl <;> rfl) | (intro i hi; have h0 : i = 0 ∨ i = 1 ∨ i = 2 := (by omega); rcases h0 with rfl | rfl | rfl <;> rfl)) ?_ | ((first | ((first | refine atF (f := 69) ?_ | refine atQ (f := 69) ?_); refine cII (hfit := .cons (.refl _) (.cons (fits_I (add_sub (by rw [FB_eq]; omega) (by omega) (by rw [FB_eq]; omega)) trivial rfl rfl) .nil)) (hac := hxs.symm ▸ puzNeighbors_ok p ((Bf.run (lsP p) (idn p.n.toNat) k).st.getD k []) (hst (by omega)) 54 (by omega)) (hK := ?_) (hx := by rw [hxs]; omega))); simp (maxSteps := 1000000) (dsimp := false) (implicitDefEqProofs := false) (disch := omega) only [wrap64, go_sem, hxs.symm, hmix]) | apply_assumption -exfalso -symm)
    all_goals (first | (show endQ _ _ _ _ _ _ _; (repeat (rename (∀ (A : Fr) (H : Hp), AWP _ _ _ _ A H → _) => hK; clear hK)); (repeat (rename (Fr → Hp → Prop) => K; clear K))) | (show Exists _; (repeat (rename (∀ (A : Fr) (H : Hp), AWP _ _ _ _ A H → _) => hK; clear hK)); (repeat (rename (Fr → Hp → Prop) => K; clear K))) | skip)
    · have hh : ∀ j, j ≤ k → j < (Bf.run (lsP p) (idn p.n.toNat) j).st.length := fun j hj => by
        by_cases e : j = k
        · subst e; omega
        · exact hk j (by omega)
      have hh' : Hold (∀ j, j ≤ k → j < (Bf.run (lsP p) (idn p.n.toNat) j).st.length) := ⟨hh⟩
      obtain ⟨st0, hst0⟩ : ∃ st0, st0 = (Bf.run (lsP p) (idn p.n.toNat) k).st := ⟨_, rfl⟩
      have hnxl := Bf.nx_len (Ls := lsP p) (s0 := idn p.n.toNat) k hk
      rw [← hst0] at hst hnl hxs
      have hxl : xs.length = (lsP p).length := by rw [hxs, hnl]; omega
      refine awp_loop (ι := Nat × List Nat) (fun z => [(56, .v (.int .i64 (z.1))), (55, .v (.int .i64 (xs.length))), (54, .own 54 0 1 xs.length), (8, .own 99 0 1 ((Bf.run (lsP p) (idn p.n.toNat) k).rows (lsP p) k z.1).2.length), (7, .v (.int .i64 (k))), (6, .list false 1 (lets p.m.length).length (cM iv 0 (lets p.m.length))), (5, .ref 1000000 0), (1, .ref 1 0)]) (fun z => hIO p ((Bf.run (lsP p) (idn p.n.toNat) k).rows (lsP p) k z.1).1 st0 xs z.2 ((Bf.run (lsP p) (idn p.n.toNat) k).rows (lsP p) k z.1).2) (fun z => z.1 ≤ (lsP p).length ∧ ((Bf.run (lsP p) (idn p.n.toNat) k).rows (lsP p) k z.1).1.st = st0 ++ z.2.map (fun j => xs.getD j []) ∧ z.2.Nodup ∧ ∀ j ∈ z.2, j < z.1) (fun z => (lsP p).length - z.1) (0, []) ⟨Nat.zero_le _, by rw [hst0]; exact (List.append_nil _).symm, List.nodup_nil, fun j hj => by cases hj⟩ (by rw [hst0]; exact start_IO rfl rfl (by simp only [go_sem] <;> first | trivial | (simp only [Option.some.injEq, AV.v.injEq, AV.own.injEq, AV.list.injEq, Value.int.injEq, Value.bool.injEq, true_and, and_true]; first | omega | (simp [Bf.rows_zero]; done)) | (simp [Bf.rows_zero]; done) | (simp [Bf.rows_zero]; omega))) ?_
      rintro ⟨i, sel⟩ ⟨hi, hsel, hnd, hsb⟩
      dsimp only at hi hsel hnd hsb ⊢
      obtain ⟨hJ1, hD1, hkl, hrow⟩ := Bf.mid hG hb0 hh hi
      have hx3 := hcl k i hh hi
      have hrl := Bf.rows_len (Ls := lsP p) k (Bf.run (lsP p) (idn p.n.toNat) k) i hi
      have hrn := Bf.rows_nx (Ls := lsP p) k (Bf.run (lsP p) (idn p.n.toNat) k) i hi
      have hpre := (Bf.rows_more (Ls := lsP p) k (Bf.run (lsP p) (idn p.n.toNat) k) i hi).st
      have hrs := fun hi => Bf.rows_succ (Ls := lsP p) k (Bf.run (lsP p) (idn p.n.toNat) k) (j := i) hi
      have hXk : ((Bf.run (lsP p) (idn p.n.toNat) k).rows (lsP p) k i).1.st.getD k [] = st0.getD k [] := by
        rw [hst0]; exact Go.Pm.pre_getD hpre (hh k (Nat.le_refl _)) []
      obtain ⟨⟨X, r⟩, hX⟩ : ∃ X, X = (Bf.run (lsP p) (idn p.n.toNat) k).rows (lsP p) k i := ⟨_, rfl⟩
      rw [← hX] at hJ1 hD1 hkl hrow hx3 hrl hrn hpre hrs hXk hsel ⊢
      dsimp only at hJ1 hD1 hkl hrow hx3 hrl hrn hpre hrs hXk hsel ⊢
      have hnx : X.nx.length = k := by rw [hrn]; exact hnxl
      obtain ⟨y, hy⟩ : ∃ y, y = xs.getD i [] := ⟨_, rfl⟩
      have hyc : i < (lsP p).length → comp (X.st.getD k []) ((lsP p).getD i (0, [])).2 = y := fun h => by
        rw [hXk, lsP_get p i (by omega), hy, hxs, nbrs_get p _ i (by omega)]
      have hyl : y.length ≤ 20 ∧ isB y := by
        by_cases e : i < (lsP p).length
        · have h1 := hst (by rw [hst0]; exact hh'.h k (Nat.le_refl _))
          have h2 := h1.pm
          have hl1 := lets_inL p.m i (by omega)
          have h3 := h2.comp (letP_pm hp.gens hl1)
          rw [← hyc e, hXk, lsP_get p i (by omega)]
          dsimp only
          exact ⟨by have := h3.1; omega, isB_of hp.n20 (fun j hj => h3.2.1 j (by rw [← h3.1]; exact hj))⟩
        · have e2 : y = [] := by rw [hy, List.getD_eq_getElem?_getD, List.getElem?_eq_none (by omega)]; rfl
          rw [e2]
          exact ⟨by simp, fun j hj => absurd hj (Nat.not_lt_zero j)⟩
      have hyB := hyl.2
      have hyl := hyl.1
      have hsB : ∀ s ∈ X.st, isB s := fun s hs => isB_of hp.n20 (hrow s hs).2
      have hk1 := lk_has (xs := X.st) hyB hsB
      have hk2 : y ∈ X.st → _ := fun h => lk_get (xs := X.st) hyB hsB h
      have hla := hJ1.lp
      have hlb := hJ1.lb
      have hld := hJ1.ld
      have hdk := hD1.le k hkl
      have hrr : Hold _ := ⟨hrs⟩
      have hsl : X.st.length = st0.length + sel.length := by rw [hsel, List.length_append, List.length_map]
      have hge := sub_ge 54 i
      rw [FB_eq] at hge
      have hsne : ∀ b, b < 2097152 → (sub 54 i == b) = false := fun b hb => beq_eq_false_iff_ne.2 (by omega)
      have hmx : i < xs.length → mixF 54 xs xs.length i = .own (sub 54 i) 0 1 y.length := fun h => by rw [mixF_lt h, hy]
      clear hrow hJ1 hD1 hh hk hJ hrs
      have hcell : ∀ j, j < X.st.length + 1 → apF X.st.length (scF (fun x => x == 1000001) (scF (fun x => x == 91) (selF 1000001 54 st0.length sel X.st))) (scF (fun x => x == 1000001) (setF (zF [Value.slice none 0 0]) 0 (AV.own (sub 54 i) 0 1 y.length))) j = selF 1000001 54 st0.length (sel ++ [i]) (X.st ++ [y]) j := fun j hj => by
        have e : (AV.own (sub 54 i) 0 1 y.length).scrub (fun x => x == 1000001) = .own (sub 54 i) 0 1 y.length := by
          simp only [AV.scrub, hsne 1000001 (by omega), Bool.false_eq_true, if_false]
        rw [sc_sel (by omega), sc_sel (by omega), scF_setF, e]; exact sel_snoc hsl j hj
      unfold hIO hER exFO
      repeat' (first | (refine awp_cutR 19 12 (A' := [(56, .v (.int .i64 (i))), (55, .v (.int .i64 (xs.length))), (54, .own 54 0 1 xs.length), (8, .own 99 0 1 r.length), (9, .v (.int .i64 (i))), (12, .v (.int .i64 (X.st.length))), (7, .v (.int .i64 (k))), (6, .list false 1 (lets p.m.length).length (cM iv 0 (lets p.m.length))), (5, .ref 1000000 0), (1, .ref 1 0)]) (H' := hIO p ⟨X.st ++ [y], X.dp, X.pa, X.bl, X.nx⟩ st0 xs (sel ++ [i]) r) (Sub.toLF (by simp only [go_sem] <;> first | trivial | (simp only [Option.some.injEq, AV.v.injEq, AV.own.injEq, AV.list.injEq, Value.int.injEq, Value.bool.injEq, true_and, and_true]; first | omega | (simp; done)) | (simp; done) | (simp; omega)) (leF_in (by omega) (fun _ _ h => h) (fun h hh => by simp (disch := omega) only [Hp.upd_app, if_neg]; rfl) (by first | rfl | (simp (disch := omega) only [Hp.upd_app, add_lit, add_self, PR_self, PR_lit, Nat.reduceEqDiff, ↓reduceIte]; first | done | rfl)) (by first | rfl | (simp (disch := omega) only [Hp.upd_app, add_lit, add_self, PR_self, PR_lit, Nat.reduceEqDiff, ↓reduceIte]; first | done | rfl)) (by simp) hcell (leF_upd (by first | rfl | (simp (disch := omega) only [Hp.upd_app, add_lit, add_self, PR_self, PR_lit, Nat.reduceEqDiff, ↓reduceIte]; first | done | rfl)) (.refl _ _ _) (leF_upd (by first | rfl | (simp (disch := omega) only [Hp.upd_app, add_lit, add_self, PR_self, PR_lit, Nat.reduceEqDiff, ↓reduceIte]; first | done | rfl)) (bfE rfl (c9 (by first | rfl | simp [setF, vecF, exFO]) (by first | rfl | simp [setF, vecF, exFO]) (by first | rfl | simp [setF, vecF, exFO]) (by first | rfl | simp [setF, vecF, exFO]) (by first | rfl | simp [setF, vecF, exFO]) (by first | rfl | simp [setF, vecF, exFO]) (by first | rfl | simp [setF, vecF, exFO]) (by first | rfl | simp [setF, vecF, exFO]) (by first | rfl | simp [setF, vecF, exFO]))) (leF_upd (by first | rfl | (simp (disch := omega) only [Hp.upd_app, add_lit, add_self, PR_self, PR_lit, Nat.reduceEqDiff, ↓reduceIte]; first | done | rfl)) (.refl _ _ _) (leF_upd (by first | rfl | (simp (disch := omega) only [Hp.upd_app, add_lit, add_self, PR_self, PR_lit, Nat.reduceEqDiff, ↓reduceIte]; first | done | rfl)) (.refl _ _ _) (leF_upd (by first | rfl | (simp (disch := omega) only [Hp.upd_app, add_lit, add_self, PR_self, PR_lit, Nat.reduceEqDiff, ↓reduceIte]; first | done | rfl)) (.refl _ _ _) (leF_upd (by first | rfl | (simp (disch := omega) only [Hp.upd_app, add_lit, add_self, PR_self, PR_lit, Nat.reduceEqDiff, ↓reduceIte]; first | done | rfl)) (.refl _ _ _) (leF_upd (by first | rfl | (simp (disch := omega) only [Hp.upd_app, add_lit, add_self, PR_self, PR_lit, Nat.reduceEqDiff, ↓reduceIte]; first | done | rfl)) (.refl _ _ _) (leF_upd (by first | rfl | (simp (disch := omega) only [Hp.upd_app, add_lit, add_self, PR_self, PR_lit, Nat.reduceEqDiff, ↓reduceIte]; first | done | rfl)) (.refl _ _ _) leF_emp id) id) id) id) id) id) id) id) (hIO_lo _ _ _))) ?_; unfold hIO hER exFO; (try dsimp only)) | (refine awp_cutR 20 56 (A' := [(55, .v (.int .i64 (xs.length))), (56, .v (.int .i64 (i))), (54, .own 54 0 1 xs.length), (8, .own 99 0 1 r.length), (9, .v (.int .i64 (i))), (12, .v (.int .i64 (X.st.length))), (7, .v (.int .i64 (k))), (6, .list false 1 (lets p.m.length).length (cM iv 0 (lets p.m.length))), (5, .ref 1000000 0), (1, .ref 1 0)]) (H' := hIO p ⟨X.st ++ [y], X.dp ++ [X.dp.getD k 0 + 1], X.pa, X.bl, X.nx⟩ st0 xs (sel ++ [i]) r) (Sub.toLF (by simp only [go_sem] <;> first | trivial | (simp only [Option.some.injEq, AV.v.injEq, AV.own.injEq, AV.list.injEq, Value.int.injEq, Value.bool.injEq, true_and, and_true]; first | omega | (simp; done)) | (simp; done) | (simp; omega)) (leF_in (by omega) (fun _ _ h => h) (fun h hh => by simp (disch := omega) only [Hp.upd_app, if_neg]; rfl) (by first | rfl | (simp (disch := omega) only [Hp.upd_app, add_lit, add_self, PR_self, PR_lit, Nat.reduceEqDiff, ↓reduceIte]; first | done | rfl)) (by first | rfl | (simp (disch := omega) only [Hp.upd_app, add_lit, add_self, PR_self, PR_lit, Nat.reduceEqDiff, ↓reduceIte]; first | done | rfl)) rfl (fun j _ => by repeat rw [sc_sel (by omega)]) (leF_upd (by first | rfl | (simp (disch := omega) only [Hp.upd_app, add_lit, add_self, PR_self, PR_lit, Nat.reduceEqDiff, ↓reduceIte]; first | done | rfl)) (.refl _ _ _) (leF_upd (by first | rfl | (simp (disch := omega) only [Hp.upd_app, add_lit, add_self, PR_self, PR_lit, Nat.reduceEqDiff, ↓reduceIte]; first | done | rfl)) (bfE rfl (c9 (by first | rfl | simp [setF, vecF, exFO]) (by first | rfl | simp [setF, vecF, exFO]) (by first | rfl | simp [setF, vecF, exFO]) (by first | rfl | simp [setF, vecF, exFO]) (by first | rfl | simp [setF, vecF, exFO]) (by first | rfl | simp [setF, vecF, exFO]) (by first | rfl | simp [setF, vecF, exFO]) (by first | rfl | simp [setF, vecF, exFO]) (by first | rfl | simp [setF, vecF, exFO]))) (leF_upd (by first | rfl | (simp (disch := omega) only [Hp.upd_app, add_lit, add_self, PR_self, PR_lit, Nat.reduceEqDiff, ↓reduceIte]; first | done | rfl)) (.refl _ _ _) (leF_upd (by first | rfl | (simp (disch := omega) only [Hp.upd_app, add_lit, add_self, PR_self, PR_lit, Nat.reduceEqDiff, ↓reduceIte]; first | done | rfl)) (.refl _ _ _) (leF_upd (by first | rfl | (simp (disch := omega) only [Hp.upd_app, add_lit, add_self, PR_self, PR_lit, Nat.reduceEqDiff, ↓reduceIte]; first | done | rfl)) (.refl _ _ _) (leF_upd (by first | rfl | (simp (disch := omega) only [Hp.upd_app, add_lit, add_self, PR_self, PR_lit, Nat.reduceEqDiff, ↓reduceIte]; first | done | rfl)) (.refl _ _ _) (leF_upd (by first | rfl | (simp (disch := omega) only [Hp.upd_app, add_lit, add_self, PR_self, PR_lit, Nat.reduceEqDiff, ↓reduceIte]; first | done | rfl)) (bfE (by simp) (fun i hi => by first | rfl | (simp only [go_sem]; done) | exact (ap_iv X.dp (X.dp.getD k 0 + 1) _ rfl) i hi)) (leF_upd (by first | rfl | (simp (disch := omega) only [Hp.upd_app, add_lit, add_self, PR_self, PR_lit, Nat.reduceEqDiff, ↓reduceIte]; first | done | rfl)) (.refl _ _ _) leF_emp id) id) id) id) id) id) id) id) (hIO_lo _ _ _))) ?_; unfold hIO hER exFO; (try dsimp only)) | (refine awp_cutR 21 55 (A' := [(54, .own 54 0 1 xs.length), (56, .v (.int .i64 (i))), (55, .v (.int .i64 (xs.length))), (8, .own 99 0 1 r.length), (9, .v (.int .i64 (i))), (12, .v (.int .i64 (X.st.length))), (7, .v (.int .i64 (k))), (6, .list false 1 (lets p.m.length).length (cM iv 0 (lets p.m.length))), (5, .ref 1000000 0), (1, .ref 1 0)]) (H' := hIO p ⟨X.st ++ [y], X.dp ++ [X.dp.getD k 0 + 1], X.pa ++ [(k : Int)], X.bl, X.nx⟩ st0 xs (sel ++ [i]) r) (Sub.toLF (by simp only [go_sem] <;> first | trivial | (simp only [Option.some.injEq, AV.v.injEq, AV.own.injEq, AV.list.injEq, Value.int.injEq, Value.bool.injEq, true_and, and_true]; first | omega | (simp; done)) | (simp; done) | (simp; omega)) (leF_in (by omega) (fun _ _ h => h) (fun h hh => by simp (disch := omega) only [Hp.upd_app, if_neg]; rfl) (by first | rfl | (simp (disch := omega) only [Hp.upd_app, add_lit, add_self, PR_self, PR_lit, Nat.reduceEqDiff, ↓reduceIte]; first | done | rfl)) (by first | rfl | (simp (disch := omega) only [Hp.upd_app, add_lit, add_self, PR_self, PR_lit, Nat.reduceEqDiff, ↓reduceIte]; first | done | rfl)) rfl (fun j _ => by repeat rw [sc_sel (by omega)]) (leF_upd (by first | rfl | (simp (disch := omega) only [Hp.upd_app, add_lit, add_self, PR_self, PR_lit, Nat.reduceEqDiff, ↓reduceIte]; first | done | rfl)) (.refl _ _ _) (leF_upd (by first | rfl | (simp (disch := omega) only [Hp.upd_app, add_lit, add_self, PR_self, PR_lit, Nat.reduceEqDiff, ↓reduceIte]; first | done | rfl)) (bfE rfl (c9 (by first | rfl | simp [setF, vecF, exFO]) (by first | rfl | simp [setF, vecF, exFO]) (by first | rfl | simp [setF, vecF, exFO]) (by first | rfl | simp [setF, vecF, exFO]) (by first | rfl | simp [setF, vecF, exFO]) (by first | rfl | simp [setF, vecF, exFO]) (by first | rfl | simp [setF, vecF, exFO]) (by first | rfl | simp [setF, vecF, exFO]) (by first | rfl | simp [setF, vecF, exFO]))) (leF_upd (by first | rfl | (simp (disch := omega) only [Hp.upd_app, add_lit, add_self, PR_self, PR_lit, Nat.reduceEqDiff, ↓reduceIte]; first | done | rfl)) (.refl _ _ _) (leF_upd (by first | rfl | (simp (disch := omega) only [Hp.upd_app, add_lit, add_self, PR_self, PR_lit, Nat.reduceEqDiff, ↓reduceIte]; first | done | rfl)) (.refl _ _ _) (leF_upd (by first | rfl | (simp (disch := omega) only [Hp.upd_app, add_lit, add_self, PR_self, PR_lit, Nat.reduceEqDiff, ↓reduceIte]; first | done | rfl)) (bfE (by simp) (fun i hi => by first | rfl | (simp only [go_sem]; done) | exact (ap_iv X.pa (k : Int) _ rfl) i hi)) (leF_upd (by first | rfl | (simp (disch := omega) only [Hp.upd_app, add_lit, add_self, PR_self, PR_lit, Nat.reduceEqDiff, ↓reduceIte]; first | done | rfl)) (.refl _ _ _) (leF_upd (by first | rfl | (simp (disch := omega) only [Hp.upd_app, add_lit, add_self, PR_self, PR_lit, Nat.reduceEqDiff, ↓reduceIte]; first | done | rfl)) (.refl _ _ _) (leF_upd (by first | rfl | (simp (disch := omega) only [Hp.upd_app, add_lit, add_self, PR_self, PR_lit, Nat.reduceEqDiff, ↓reduceIte]; first | done | rfl)) (.refl _ _ _) leF_emp id) id) id) id) id) id) id) id) (hIO_lo _ _ _))) ?_; unfold hIO hER exFO; (try dsimp only)) | (refine awp_cutR 22 54 (A' := [(7, .v (.int .i64 (k))), (56, .v (.int .i64 (i))), (55, .v (.int .i64 (xs.length))), (54, .own 54 0 1 xs.length), (8, .own 99 0 1 r.length), (9, .v (.int .i64 (i))), (12, .v (.int .i64 (X.st.length))), (6, .list false 1 (lets p.m.length).length (cM iv 0 (lets p.m.length))), (5, .ref 1000000 0), (1, .ref 1 0)]) (H' := hIO p ⟨X.st ++ [y], X.dp ++ [X.dp.getD k 0 + 1], X.pa ++ [(k : Int)], X.bl ++ [(lets p.m.length).getD i 0], X.nx⟩ st0 xs (sel ++ [i]) r) (Sub.toLF (by simp only [go_sem] <;> first | trivial | (simp only [Option.some.injEq, AV.v.injEq, AV.own.injEq, AV.list.injEq, Value.int.injEq, Value.bool.injEq, true_and, and_true]; first | omega | (simp; done)) | (simp; done) | (simp; omega)) (leF_in (by omega) (fun _ _ h => h) (fun h hh => by simp (disch := omega) only [Hp.upd_app, if_neg]; rfl) (by first | rfl | (simp (disch := omega) only [Hp.upd_app, add_lit, add_self, PR_self, PR_lit, Nat.reduceEqDiff, ↓reduceIte]; first | done | rfl)) (by first | rfl | (simp (disch := omega) only [Hp.upd_app, add_lit, add_self, PR_self, PR_lit, Nat.reduceEqDiff, ↓reduceIte]; first | done | rfl)) rfl (fun j _ => by repeat rw [sc_sel (by omega)]) (leF_upd (by first | rfl | (simp (disch := omega) only [Hp.upd_app, add_lit, add_self, PR_self, PR_lit, Nat.reduceEqDiff, ↓reduceIte]; first | done | rfl)) (.refl _ _ _) (leF_upd (by first | rfl | (simp (disch := omega) only [Hp.upd_app, add_lit, add_self, PR_self, PR_lit, Nat.reduceEqDiff, ↓reduceIte]; first | done | rfl)) (bfE rfl (c9 (by first | rfl | simp [setF, vecF, exFO]) (by first | rfl | simp [setF, vecF, exFO]) (by first | rfl | simp [setF, vecF, exFO]) (by first | rfl | simp [setF, vecF, exFO]) (by first | rfl | simp [setF, vecF, exFO]) (by first | rfl | simp [setF, vecF, exFO]) (by first | rfl | simp [setF, vecF, exFO]) (by first | rfl | simp [setF, vecF, exFO]) (by first | rfl | simp [setF, vecF, exFO]))) (leF_upd (by first | rfl | (simp (disch := omega) only [Hp.upd_app, add_lit, add_self, PR_self, PR_lit, Nat.reduceEqDiff, ↓reduceIte]; first | done | rfl)) (.refl _ _ _) (leF_upd (by first | rfl | (simp (disch := omega) only [Hp.upd_app, add_lit, add_self, PR_self, PR_lit, Nat.reduceEqDiff, ↓reduceIte]; first | done | rfl)) (bfE (by simp) (fun i hi => by first | rfl | (simp only [go_sem]; done) | exact (ap_iv X.bl ((lets p.m.length).getD i 0) _ rfl) i hi)) (leF_upd (by first | rfl | (simp (disch := omega) only [Hp.upd_app, add_lit, add_self, PR_self, PR_lit, Nat.reduceEqDiff, ↓reduceIte]; first | done | rfl)) (.refl _ _ _) (leF_upd (by first | rfl | (simp (disch := omega) only [Hp.upd_app, add_lit, add_self, PR_self, PR_lit, Nat.reduceEqDiff, ↓reduceIte]; first | done | rfl)) (.refl _ _ _) (leF_upd (by first | rfl | (simp (disch := omega) only [Hp.upd_app, add_lit, add_self, PR_self, PR_lit, Nat.reduceEqDiff, ↓reduceIte]; first | done | rfl)) (.refl _ _ _) (leF_upd (by first | rfl | (simp (disch := omega) only [Hp.upd_app, add_lit, add_self, PR_self, PR_lit, Nat.reduceEqDiff, ↓reduceIte]; first | done | rfl)) (.refl _ _ _) leF_emp id) id) id) id) id) id) id) id) (hIO_lo _ _ _))) ?_; unfold hIO hER exFO; (try dsimp only)) | (refine Ob.mk (decide_eq_false (by assumption)) ?_) | (refine awp_regionPK (id := 19) 9445003190513025826815 1 14 (by kernel_rfl) (by kernel_rfl) (by kernel_rfl) ?_; simp only [List.map_cons, List.map_nil, opsP, List.take_succ_cons, List.take_zero, List.drop_succ_cons, List.drop_zero]; simp (maxSteps := 1000000) (dsimp := false) (implicitDefEqProofs := false) (disch := omega) only [wrap64, go_sem, kvs_snoc, hy.symm, hmx, hsne, hk1]) | (refine awp_regionPK (id := 21) 9445003190513025826815 1 10 (by kernel_rfl) (by kernel_rfl) (by kernel_rfl) ?_; simp only [List.map_cons, List.map_nil, opsP, List.take_succ_cons, List.take_zero, List.drop_succ_cons, List.drop_zero]; simp (maxSteps := 1000000) (dsimp := false) (implicitDefEqProofs := false) (disch := omega) only [wrap64, go_sem, kvs_snoc, hy.symm, hmx, hsne, hk1]) | refine awp_seqK fun K hK => ?_ | (refine awp_regionK 9445003190513025826815 rfl ?_; simp only [List.map_cons, List.map_nil]; simp (maxSteps := 1000000) (dsimp := false) (implicitDefEqProofs := false) (disch := omega) only [wrap64, go_sem, kvs_snoc, hy.symm, hmx, hsne, hk1]) | (refine awp_regionQK 9445003190513025826815 (by kernel_rfl) (by kernel_rfl) (by kernel_rfl) ?_; simp only [List.map_cons, List.map_nil]; simp (maxSteps := 1000000) (dsimp := false) (implicitDefEqProofs := false) (disch := omega) only [wrap64, go_sem, kvs_snoc, hy.symm, hmx, hsne, hk1]) | refine awp_block ?_ | (refine awp_skip ?_; simp only [go_sem, kvs_snoc, hy.symm, hmx, hsne, hk1]) | (refine awp_exit ?_; simp only [go_sem, kvs_snoc, hy.symm, hmx, hsne, hk1]) | (refine awp_ret ?_; try simp only [go_sem, kvs_snoc, hy.symm, hmx, hsne, hk1]) | (refine awp_condP rfl ?_; try simp only [go_sem, kvs_snoc, hy.symm, hmx, hsne, hk1]) | (refine BrP.mk (fun h => ?_) (fun h => ?_) <;> try simp (dsimp := false) (disch := omega) only [wrap64]) | (refine Br.mk (fun h => ?_) (fun h => ?_) <;> try simp (dsimp := false) (disch := omega) only [wrap64]) | refine Ob.mk (by first | omega | (intro _ _; rfl) | trivial | (intros; trivial) | assumption | (intro i hi; have h0 : i = 0 := (by omega); subst h0; first | rfl | trivial) | (intro i hi; have h0 : i = 0 ∨ i = 1 := (by omega); rcases h0 with rfl | rfl <;> rfl) | (intro i hi; have h0 : i = 0 ∨ i = 1 ∨ i = 2 := (by omega); rcases h0 with rfl | rfl | rfl <;> rfl)) ?_ | ((first | ((first | refine atF (f := 103) ?_ | refine atQ (f := 103) ?_); refine cV (hfit := .cons (fits_I (by rw [hy]; simp (disch := omega) only [Hp.upd_app, if_neg]; exact add_sub (by rw [FB_eq]; omega) (by omega) (by rw [FB_eq]; omega)) trivial rfl rfl) .nil) (hac := stateKey_ok y (by omega) hyB) (hK := ?_)) | ((first | refine atF (f := 97) ?_ | refine atQ (f := 97) ?_); refine cV (hfit := .cons (.own (f := fun _ => .dead) rfl trivial (by omega) (fun _ _ => trivial) (fun _ _ => .dead _)) .nil) (hac := lengthD_ok X.st.length) (hK := ?_))); simp (maxSteps := 1000000) (dsimp := false) (implicitDefEqProofs := false) (disch := omega) only [wrap64, go_sem, kvs_snoc, hy.symm, hmx, hsne, hk1]) | apply_assumption -exfalso -symm)
      all_goals (first | (show endQ _ _ _ _ _ _ _; (repeat (rename (∀ (A : Fr) (H : Hp), AWP _ _ _ _ A H → _) => hK; clear hK)); (repeat (rename (Fr → Hp → Prop) => K; clear K))) | (show Exists _; (repeat (rename (∀ (A : Fr) (H : Hp), AWP _ _ _ _ A H → _) => hK; clear hK)); (repeat (rename (Fr → Hp → Prop) => K; clear K))) | skip)
      · have e := hrr.h (by omega)
        unfold Bf.meet at e
        dsimp only at e
        rw [hyc (by omega), if_pos (by assumption)] at e
        refine ⟨(i + 1, sel), ⟨by dsimp only; omega, by rw [e]; exact hsel, hnd, fun j hj => by have := hsb j hj; dsimp only; omega⟩, by dsimp only; omega, ?_⟩
        rw [e, hk2 (by assumption)]
        repeat rw [sc_sel (by omega)]
        dsimp only
        exact Sub.toLF (by simp only [go_sem] <;> first | trivial | (simp only [Option.some.injEq, AV.v.injEq, AV.own.injEq, AV.list.injEq, Value.int.injEq, Value.bool.injEq, true_and, and_true]; first | omega | (simp; done)) | (simp; done) | (simp; omega)) (leF_in (by omega) (fun _ _ h => h) (fun h hh => by simp (disch := omega) only [Hp.upd_app, if_neg]; rfl) (by first | rfl | (simp (disch := omega) only [Hp.upd_app, add_lit, add_self, PR_self, PR_lit, Nat.reduceEqDiff, ↓reduceIte]; first | done | rfl)) (by first | rfl | (simp (disch := omega) only [Hp.upd_app, add_lit, add_self, PR_self, PR_lit, Nat.reduceEqDiff, ↓reduceIte]; first | done | rfl)) rfl (fun _ _ => rfl) (leF_upd (by first | rfl | (simp (disch := omega) only [Hp.upd_app, add_lit, add_self, PR_self, PR_lit, Nat.reduceEqDiff, ↓reduceIte]; first | done | rfl)) (bfE (by simp) (fun _ _ => rfl)) (leF_upd (by first | rfl | (simp (disch := omega) only [Hp.upd_app, add_lit, add_self, PR_self, PR_lit, Nat.reduceEqDiff, ↓reduceIte]; first | done | rfl)) (.refl _ _ _) (leF_upd (by first | rfl | (simp (disch := omega) only [Hp.upd_app, add_lit, add_self, PR_self, PR_lit, Nat.reduceEqDiff, ↓reduceIte]; first | done | rfl)) (.refl _ _ _) (leF_upd (by first | rfl | (simp (disch := omega) only [Hp.upd_app, add_lit, add_self, PR_self, PR_lit, Nat.reduceEqDiff, ↓reduceIte]; first | done | rfl)) (.refl _ _ _) (leF_upd (by first | rfl | (simp (disch := omega) only [Hp.upd_app, add_lit, add_self, PR_self, PR_lit, Nat.reduceEqDiff, ↓reduceIte]; first | done | rfl)) (.refl _ _ _) (leF_upd (by first | rfl | (simp (disch := omega) only [Hp.upd_app, add_lit, add_self, PR_self, PR_lit, Nat.reduceEqDiff, ↓reduceIte]; first | done | rfl)) (.refl _ _ _) (leF_upd (by first | rfl | (simp (disch := omega) only [Hp.upd_app, add_lit, add_self, PR_self, PR_lit, Nat.reduceEqDiff, ↓reduceIte]; first | done | rfl)) (.refl _ _ _) (leF_upd (by first | rfl | (simp (disch := omega) only [Hp.upd_app, add_lit, add_self, PR_self, PR_lit, Nat.reduceEqDiff, ↓reduceIte]; first | done | rfl)) (.refl _ _ _) leF_emp id) id) id) id) id) id) id) id) (hIO_lo _ _ _))
      · have e := hrr.h (by omega)
        unfold Bf.meet at e
        dsimp only at e
        rw [hyc (by omega), if_neg (by assumption), lsP_get p i (by omega)] at e
        dsimp only at e
        have hm1 : X.st ++ [y] = st0 ++ (sel ++ [i]).map (fun j => xs.getD j []) := by
          rw [hsel, List.map_append, List.append_assoc, hy]; rfl
        have hm2 : (sel ++ [i]).Nodup := by
          refine List.nodup_append.2 ⟨hnd, List.nodup_cons.2 ⟨fun h => (List.not_mem_nil h).elim, List.nodup_nil⟩, fun a ha b hb => ?_⟩
          have h1 := hsb a ha
          have h2 := List.mem_singleton.1 hb
          omega
        have hm3 : ∀ j ∈ sel ++ [i], j < i + 1 := by
          intro j hj
          rcases List.mem_append.1 hj with h | h
          · have := hsb j h; omega
          · have := List.mem_singleton.1 h; omega
        refine ⟨(i + 1, sel ++ [i]), ⟨by dsimp only; omega, by rw [e]; exact hm1, hm2, hm3⟩, by dsimp only; omega, ?_⟩
        rw [e]
        repeat rw [sc_sel (by omega)]
        dsimp only
        exact Sub.toLF (by simp only [go_sem] <;> first | trivial | (simp only [Option.some.injEq, AV.v.injEq, AV.own.injEq, AV.list.injEq, Value.int.injEq, Value.bool.injEq, true_and, and_true]; first | omega | (simp; done)) | (simp; done) | (simp; omega)) (leF_in (by omega) (fun _ _ h => h) (fun h hh => by simp (disch := omega) only [Hp.upd_app, if_neg]; rfl) (by first | rfl | (simp (disch := omega) only [Hp.upd_app, add_lit, add_self, PR_self, PR_lit, Nat.reduceEqDiff, ↓reduceIte]; first | done | rfl)) (by first | rfl | (simp (disch := omega) only [Hp.upd_app, add_lit, add_self, PR_self, PR_lit, Nat.reduceEqDiff, ↓reduceIte]; first | done | rfl)) rfl (fun _ _ => rfl) (leF_upd (by first | rfl | (simp (disch := omega) only [Hp.upd_app, add_lit, add_self, PR_self, PR_lit, Nat.reduceEqDiff, ↓reduceIte]; first | done | rfl)) (bfE (by simp) (fun _ _ => rfl)) (leF_upd (by first | rfl | (simp (disch := omega) only [Hp.upd_app, add_lit, add_self, PR_self, PR_lit, Nat.reduceEqDiff, ↓reduceIte]; first | done | rfl)) (.refl _ _ _) (leF_upd (by first | rfl | (simp (disch := omega) only [Hp.upd_app, add_lit, add_self, PR_self, PR_lit, Nat.reduceEqDiff, ↓reduceIte]; first | done | rfl)) (.refl _ _ _) (leF_upd (by first | rfl | (simp (disch := omega) only [Hp.upd_app, add_lit, add_self, PR_self, PR_lit, Nat.reduceEqDiff, ↓reduceIte]; first | done | rfl)) (.refl _ _ _) (leF_upd (by first | rfl | (simp (disch := omega) only [Hp.upd_app, add_lit, add_self, PR_self, PR_lit, Nat.reduceEqDiff, ↓reduceIte]; first | done | rfl)) (.refl _ _ _) (leF_upd (by first | rfl | (simp (disch := omega) only [Hp.upd_app, add_lit, add_self, PR_self, PR_lit, Nat.reduceEqDiff, ↓reduceIte]; first | done | rfl)) (.refl _ _ _) (leF_upd (by first | rfl | (simp (disch := omega) only [Hp.upd_app, add_lit, add_self, PR_self, PR_lit, Nat.reduceEqDiff, ↓reduceIte]; first | done | rfl)) (.refl _ _ _) (leF_upd (by first | rfl | (simp (disch := omega) only [Hp.upd_app, add_lit, add_self, PR_self, PR_lit, Nat.reduceEqDiff, ↓reduceIte]; first | done | rfl)) (.refl _ _ _) leF_emp id) id) id) id) id) id) id) id) (hIO_lo p ⟨X.st ++ [y], X.dp ++ [X.dp.getD k 0 + 1], X.pa ++ [(k : Int)], X.bl ++ [(lets p.m.length).getD i 0], X.nx⟩ (r ++ [(X.st.length : Int)])))
      · have ei : i = (lsP p).length := by omega
        have e1 : Bf.run (lsP p) (idn p.n.toNat) (k + 1) = { X with nx := X.nx ++ [r] } := by
          show Bf.step (lsP p) k _ = _
          unfold Bf.step
          rw [← ei, ← hX, hrn]
        refine ⟨k + 1, ⟨fun j hj => hh'.h j (by omega), by rw [e1]; exact hx3⟩, by omega, ?_⟩
        rw [e1]
        repeat rw [sc_sel (by omega)]
        dsimp only
        refine Sub.trans (?_ : Sub _ _ _ [(7, .v (.int .i64 (((k + 1 : Nat) : Int)))), (6, .list false 1 (lets p.m.length).length (cM iv 0 (lets p.m.length))), (5, .ref 1000000 0), (1, .ref 1 0)] (((RR 54 xs).add ((PR 1000001 st0 st0.length st0.length).add (hER p ⟨X.st, X.dp, X.pa, X.bl, X.nx ++ [r]⟩))).upd 1000001 (.cells X.st.length (selF 1000001 54 st0.length sel X.st)))) ?_
        · refine Sub.toFF (fun x => x = 99) (Fr.fit_cons rfl (.refl _) (Fr.fit_cons rfl (.refl _) (Fr.fit_cons rfl (.refl _) (Fr.fit_cons rfl (.refl _) (Fr.fit_nil _))))) (leF_in (D := fun x => x = 99) (by omega) (fun h hh e => by omega) (fun h hh => by simp (disch := omega) only [Hp.upd_app, if_neg]; rfl) (by first | rfl | (simp (disch := omega) only [Hp.upd_app, add_lit, add_self, PR_self, PR_lit, Nat.reduceEqDiff, ↓reduceIte]; first | done | rfl)) (by first | rfl | (simp (disch := omega) only [Hp.upd_app, add_lit, add_self, PR_self, PR_lit, Nat.reduceEqDiff, ↓reduceIte]; first | done | rfl)) rfl (fun _ _ => rfl) (leF_upd rfl ⟨rfl, fun i hi => match i, hi with | 0, _ => .refl _ | 1, _ => .refl _ | 2, _ => .refl _ | 3, _ => .refl _ | 4, _ => .refl _ | 5, _ => .refl _ | 6, _ => .refl _ | 7, _ => .refl _ | 8, _ => .ofEq (by simp [setF, vecF, exFO])⟩ (leF_upd rfl ⟨by simp, fun i hi => ?_⟩ (leF_upd (by first | rfl | (simp (disch := omega) only [Hp.upd_app, add_lit, add_self, PR_self, PR_lit, Nat.reduceEqDiff, ↓reduceIte]; first | done | rfl)) (.refl _ _ _) (leF_upd (by first | rfl | (simp (disch := omega) only [Hp.upd_app, add_lit, add_self, PR_self, PR_lit, Nat.reduceEqDiff, ↓reduceIte]; first | done | rfl)) (.refl _ _ _) (leF_upd (by first | rfl | (simp (disch := omega) only [Hp.upd_app, add_lit, add_self, PR_self, PR_lit, Nat.reduceEqDiff, ↓reduceIte]; first | done | rfl)) (.refl _ _ _) (leF_upd (by first | rfl | (simp (disch := omega) only [Hp.upd_app, add_lit, add_self, PR_self, PR_lit, Nat.reduceEqDiff, ↓reduceIte]; first | done | rfl)) (.refl _ _ _) (leF_upd (by first | rfl | (simp (disch := omega) only [Hp.upd_app, add_lit, add_self, PR_self, PR_lit, Nat.reduceEqDiff, ↓reduceIte]; first | done | rfl)) (.refl _ _ _) leF_emp (by omega)) (by omega)) (by omega)) (by omega)) (by omega)) (by omega)) (by omega)) (fun g B hB => (hER_low (H := hER p ⟨X.st, X.dp, X.pa, X.bl, X.nx ++ [r]⟩) (e := 99) (Hp.le_refl _) (.inr (.inr (.inr rfl))) g B hB).2.2.2.1))
          by_cases hi2 : i < X.nx.length
          · exact .ofEq (by simp [apF, setF, cM, List.getD_eq_getElem?_getD, List.getElem?_append, hi2])
          · have hi3 : i = X.nx.length := by omega
            have e2 : apF X.nx.length (cM ints [] X.nx) (setF (zF [Value.slice none 0 0]) 0 (AV.own 99 0 1 r.length)) i = AV.own 99 0 1 r.length := by subst hi3; simp [apF, setF]
            have e3 : cM ints [] (X.nx ++ [r]) i = ints r := by subst hi3; simp [cM, List.getD_eq_getElem?_getD]
            rw [e2, e3]
            exact fits_I (by first | rfl | (simp (disch := omega) only [Hp.upd_app, add_lit, add_self, PR_self, PR_lit, Nat.reduceEqDiff, ↓reduceIte]; first | done | rfl)) rfl rfl rfl
        · have hlo := fun (Y : Nat) hY => hER_low (p := p) (X := ⟨X.st, X.dp, X.pa, X.bl, X.nx ++ [r]⟩) (H := hER p ⟨X.st, X.dp, X.pa, X.bl, X.nx ++ [r]⟩) (e := Y) (Hp.le_refl _) hY
          refine Sub.absorbS (S := 1000001) (T := 54) (st := X.st) (st0 := st0) (xs := xs) (sel := sel) (H' := hER p ⟨X.st, X.dp, X.pa, X.bl, X.nx ++ [r]⟩) (by omega) (by omega) (by omega) (by omega) (by omega) rfl hsel hnd (fun j hj => by have := hsb j hj; omega) rfl (fun _ _ => rfl) (fun j hj => ?_) (fun j hj => ?_) (by simp only [go_sem] <;> first | trivial | (simp only [Option.some.injEq, AV.v.injEq, AV.own.injEq, AV.list.injEq, Value.int.injEq, Value.bool.injEq, true_and, and_true]; first | omega | (simp; done)) | (simp; done) | (simp; omega)) (by simp only [Fr.low, AV.low, and_true, true_and]; omega) (fun g B hB => ?_)
          · have hgj := sub_ge 1000001 j
            rw [FB_eq] at hgj
            have hjm : j < FB := by rw [FB_eq]; omega
            have hf : famB 54 (sub 1000001 j) = false := by
              unfold famB
              rw [sub_div hjm, beq_eq_false_iff_ne.2 (show sub 1000001 j ≠ 54 by omega)]; rfl
            unfold Hp.upd
            rw [if_neg (by omega), Hp.add_none (PR_out hf)]
            exact add_sub (by rw [FB_eq]; omega) hj (by rw [FB_eq]; omega)
          · have hgj := sub_ge 54 j
            rw [FB_eq] at hgj
            unfold Hp.upd
            rw [if_neg (by omega)]
            exact add_sub (by rw [FB_eq]; omega) hj (by rw [FB_eq]; omega)
          · obtain ⟨k1, k2, k3, k4, k5⟩ := hlo 1000001 (.inr (.inl rfl)) g B hB
            obtain ⟨j1, j2, _⟩ := hlo 54 (.inr (.inr (.inl rfl))) g B hB
            refine ⟨?_, k3, k4, k5⟩
            unfold Hp.upd; rw [if_neg k3, add_low (by rw [FB_eq]; omega) j2, add_low (by rw [FB_eq]; omega) k3]; exact k1
    · have hdn : Bf.Done (lsP p) (idn p.n.toNat) k := ⟨by
        by_cases e : k = 0
        · have := hJ.ne.2; omega
        · have h1 := hk (k - 1) (by omega)
          have h2 := (Bf.run_more (Ls := lsP p) (s0 := idn p.n.toNat) (show k - 1 ≤ k by omega)).st.length_le
          omega, hk⟩
      have e : XS p = some (Bf.run (lsP p) (idn p.n.toNat) k) := by
        rw [XS_yes hp]
        exact Go.Pm.srch_some ⟨k, hdn, by omega, rfl⟩
      refine end_tup2 (a := .ref 1000000 0) (b := .v (.bool true)) (H' := exO p (Bf.run (lsP p) (idn p.n.toNat) k)) (by rfl) (by decide) (Sub.toFF (fun _ => False) (Fr.fit_cons rfl (.refl _) (Fr.fit_cons rfl (.refl _) (Fr.fit_nil _))) ?_) (.inl ⟨by rw [e]; rfl, rfl, by rw [XA_some e]⟩)
      unfold exO
      exact leF_addF (fun _ _ h => h) (leF_upd (by first | rfl | (simp (disch := omega) only [Hp.upd_app, add_lit, add_self, PR_self, PR_lit, Nat.reduceEqDiff, ↓reduceIte]; first | done | rfl)) (.refl _ _ _) (leF_upd (B' := .cells 9 (exFO p (Bf.run (lsP p) (idn p.n.toNat) k))) (by exact add_lit (by omega) (by omega)) ⟨rfl, fun i hi => match i, hi with | 0, _ => .refl _ | 1, _ => .refl _ | 2, _ => .refl _ | 3, _ => .refl _ | 4, _ => .refl _ | 5, _ => .dead _ | 6, _ => .dead _ | 7, _ => .dead _ | 8, _ => .dead _⟩ leF_emp id) id)
  · refine end_tup2 (a := .v (.pointer none)) (b := .v (.bool false)) (H' := Hp.emp) (by rfl) (by decide) (Sub.toL (by simp only [go_sem] <;> first | trivial | (simp only [Option.some.injEq, AV.v.injEq, AV.own.injEq, AV.list.injEq, Value.int.injEq, Value.bool.injEq, true_and, and_true]; first | omega | (simp; done)) | (simp; done) | (simp; omega)) (Hp.le_emp _)) (.inr ⟨by rw [cnt_none (by assumption)]; rfl, rfl, rfl⟩)
end Go.Proofs.Ytiihgbobdipikaa
